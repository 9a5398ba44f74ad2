/- What stands in the place of hot functions, listed; no conditions. The code of elements' speeds and of sines computes just what is told of them; no conditions. What functions without a body answer; no conditions. A word times a power of two is rounded once; no conditions. Length and nearness on words; no conditions. The quotient of complex numbers in fractions; no conditions. The square root of a complex number in fractions; no conditions. The program's small functions compute what the Lean functions tell; no conditions. A call of ChartGroup returns true and leaves alone what was there; no conditions. -/
import Derived.Test.YtnbpfafngidimaaGreatVmP3
import Derived.Test.YtnbpfafngidimaaGreatVmKM
import Derived.Test.YtnbpfafngidimaaGreatProg
import Derived.Test.YtnbpfafngidimaaGreatVmLP
namespace Go.Vm
open Go.Proofs
set_option linter.unusedVariables false

/-! ### What stands in the place of hot functions -/
def checkK : KEI := checkB placeK withinK noughtK wh1
def spSK : ∀ R : Type, Nat → Nat → Nat → Nat → Nat → Nat → (Int → Option R) → (Nat → Nat → Option R) → Option R := spS checkK placeK noughtK FiniteK subK
def spOK : ∀ R : Type, Nat → Nat → Nat → Nat → Nat → Nat → (Int → Option R) → (Nat → Nat → Option R) → Option R := spO checkK placeK noughtK FiniteK subK divK sclK
def spDK : ∀ R : Type, Nat → Nat → Nat → Nat → Nat → Nat → (Int → Option R) → (Nat → Nat → Option R) → Option R := spD checkK placeK noughtK FiniteK subK divK mulK sclK
/-- the hot ones -/
def hot : List (Nat × Sum) := [(199, sEI checkK), (217, sSp spSK spOK spDK), (258, sFF2 stepsK), (243, sCB placeK), (244, sCB noughtK), (245, sWh1), (221, sW2 mulK), (53, sFF absK), (22, sCCC mulK), (84, sCCC addK), (21, sCCC subK), (80, sFFB withinK), (135, sCFB WithinK), (141, sFB finiteK), (93, sCB FiniteK), (179, sCCC divK), (81, sCB noughtK), (86, sCC negK),
  (79, sCB placeK), (23, sCCB LikeK), (87, sFFB likeK), (112, sInf3 isInfK isInfPK isInfMK), (113, sInfW2), (114, sFB isNanK), (275, sFFI normK), (260, sFFI frexpK), (229, sFFI frexpK), (200, sFFI frexpK), (77, sFFF copyK),
  (247, sFIF ldexpK), (201, sFIF ldexpK), (117, sFIF scaleK), (115, sCF greatestK), (116, sCCI scaledK), (119, sCF squareK), (118, sFF sqrtK), (38, sCF lengthK), (39, sCFC sclK),
  (165, sPi), (265, sFF coreK), (273, sFF oddK), (238, sFF logK), (249, sFB signK), (266, sFB minusK), (267, sFFF signedK), (233, sFFF angleK), (189, sCC powLogK)]
def methT (t : TypeId) (s : String) : Option FuncId :=
  bif s == "eddy/element.speed" then
    (bif Nat.beq t 261 then some 301 else bif Nat.beq t 263 then some 304 else bif Nat.beq t 265 then some 308 else bif Nat.beq t 267 then some 311 else bif Nat.beq t 268 then some 314 else none)
  else bif s == "eddy/element.potential" then
    (bif Nat.beq t 261 then some 299 else bif Nat.beq t 263 then some 302 else bif Nat.beq t 265 then some 306 else bif Nat.beq t 267 then some 309 else bif Nat.beq t 268 then some 312 else none)
  else bif s == "eddy/element.slope" then
    (bif Nat.beq t 261 then some 300 else bif Nat.beq t 263 then some 303 else bif Nat.beq t 265 then some 307 else bif Nat.beq t 267 then some 310 else bif Nat.beq t 268 then some 313 else none)
  else none
def wildT (f : FuncId) : Bool := Nat.beq f 142
def nanT (f : FuncId) : Bool := Nat.beq f 53
/-- the same without summaries of its own, for equations -/
def cxe (P : Program) (l : List (Nat × Sum)) : Cx := { P := P, sums := tab l, exts := fun _ => none, meths := methT, wild := fun _ => false, fi := fiReal, nn := false, nan1 := fun _ => false, defs := fun _ => false, hs := fun _ _ _ => none }
def extL : List (Nat × Sum) := [(144, xFrom), (145, xBits), (279, xWhole .even), (280, xWhole .zero)]
def cxm (P : Program) (l : List (Nat × Sum)) : Cx := { P := P, sums := tab l, exts := tab extL, meths := methT, wild := wildT, fi := fiReal, nn := true, nan1 := nanT, defs := fun f => Nat.beq f 190, hs := fun _ _ _ => none }
end Go.Vm
namespace Go.Vm
open Go.Proofs
set_option linter.unusedVariables false
set_option maxRecDepth 1000000
theorem z_wh1 (R : Type) (k : Value → Option R) : evFn (cx Tryz.prog []) 60 245 [.float .f64 4607182418800017408] k = k (.bool true) := by kernel_rfl
theorem z_reals (wi : KCFB) (R : Type) a b (k : Value → Option R) : evFn (cx Tryz.prog [(135, sCFB wi)]) 60 243 [.complex .f64 a b] k = placeB wi R a b fun t => k (.bool t) := by kernel_rfl
theorem z_nought2 (R : Type) a b (k : Value → Option R) : evFn (cx Tryz.prog []) 60 244 [.complex .f64 a b] k = noughtK R a b fun t => k (.bool t) := by kernel_rfl
theorem z_echeck (re : KCB) (wi : KFFB) (no : KCB) (wh : KFB) (R : Type) kind a1 a2 s1 s2 p (k : Value → Option R) :
  evFn (cx Tryz.prog [(243, sCB re), (80, sFFB wi), (244, sCB no), (245, sFB wh)]) 60 199 [el kind a1 a2 s1 s2 p] k = checkB re wi no wh R kind a1 a2 s1 s2 p fun e => k (.int .i64 e) := by kernel_rfl
theorem z_whole2 (mul : KCCC) (R : Type) a b (k : Value → Option R) : evFn (cx Tryz.prog [(22, sCCC mul)]) 60 221 [.complex .f64 a b, .int .i64 2] k = mul R a b a b fun x y => k (.complex .f64 x y) := by kernel_rfl
theorem z_spS (re : KCB) (wi : KFFB) (no fin : KCB) (wh : KFB) (sub : KCCC) (R : Type) a1 a2 s1 s2 z1 z2 (k : Value → Option R) :
  evFn (cxe Tryz.prog [(199, sEI (checkB re wi no wh)), (243, sCB re), (244, sCB no), (93, sCB fin), (21, sCCC sub)]) 60 217 [el 1 a1 a2 s1 s2 0, .complex .f64 z1 z2] k =
    spS (checkB re wi no wh) re no fin sub R a1 a2 s1 s2 z1 z2 (vErr k) (zOk k) := by kernel_rfl
theorem z_spO (re : KCB) (wi : KFFB) (no fin : KCB) (wh : KFB) (sub div : KCCC) (scl : KCFC) (R : Type) a1 a2 s1 s2 z1 z2 (k : Value → Option R) :
  evFn (cxe Tryz.prog [(199, sEI (checkB re wi no wh)), (243, sCB re), (244, sCB no), (93, sCB fin), (21, sCCC sub), (179, sCCC div), (39, sCFC scl), (165, sPi)]) 60 217 [el 2 a1 a2 s1 s2 0, .complex .f64 z1 z2] k =
    spO (checkB re wi no wh) re no fin sub div scl R a1 a2 s1 s2 z1 z2 (vErr k) (zOk k) := by kernel_rfl
theorem z_spD (re : KCB) (wi : KFFB) (no fin : KCB) (sub div mul : KCCC) (scl : KCFC) (R : Type) a1 a2 s1 s2 z1 z2 (k : Value → Option R) :
  evFn (cxe Tryz.prog [(199, sEI (checkB re wi no wh1)), (243, sCB re), (244, sCB no), (245, sWh1), (93, sCB fin), (21, sCCC sub), (179, sCCC div), (39, sCFC scl), (221, sW2 mul)]) 60 217 [el 3 a1 a2 s1 s2 4607182418800017408, .complex .f64 z1 z2] k =
    spD (checkB re wi no wh1) re no fin sub div mul scl R a1 a2 s1 s2 z1 z2 (vErr k) (zOk k) := by kernel_rfl
theorem z_steps (R : Type) y (k : Value → Option R) : evFn (cx Tryz.prog []) 60 258 [.float .f64 y] k = stepsK R y fun s c => k (.tuple ⟨[.float .f64 s, .float .f64 c]⟩) := by kernel_rfl
end Go.Vm
namespace Go.Vm
open Go.Proofs
set_option linter.unusedVariables false
set_option maxRecDepth 1000000
theorem run_ext {P : Program} {f : FuncId} {fn : Func} {ext : Array Value → Sem Value} (h1 : P.funcs[f]? = some fn) (h2 : (fn.name == "runtime.NumGoroutine") = false) (h3 : fn.body.isNone = true)
    (h4 : Extern.find fn = some ext) (h5 : (Extern.findNext fn).isNone = true) {args : Array Value} {v : Value} (h6 : ext args = pure v) (w : World) : (callFunc f args).run P w = .ok (.value v) w := by
  have h5' : Extern.findNext fn = none := by simpa using h5
  have h2' : fn.name ≠ "runtime.NumGoroutine" := by simpa using h2
  have h3' : fn.body = none := by simpa using h3
  unfold callFunc
  simp [Sem.run_bind, h1, h2', h3', h4, h5', h6]
theorem e144 : ExtOk Tryz.prog 144 xFrom := by
  intro R args k r hr
  unfold xFrom at hr; split at hr
  · rename_i n
    rw [forceN_eq] at hr
    exact ⟨rfl, _, hr, rfl, fun w => run_ext Tryz.func144 (by kernel_rfl) (by kernel_rfl) (show Extern.find Tryz.f144 = some Extern.MathFloatBits.float64frombits by kernel_rfl) (by kernel_rfl) rfl w⟩
  · cases hr
theorem e145 : ExtOk Tryz.prog 145 xBits := by
  intro R args k r hr
  unfold xBits at hr; split at hr
  · rename_i b
    rw [fiReal_fair] at hr
    exact ⟨rfl, _, hr, rfl, fun w => run_ext Tryz.func145 (by kernel_rfl) (by kernel_rfl) (show Extern.find Tryz.f145 = some Extern.MathFloatBits.float64bits by kernel_rfl) (by kernel_rfl) rfl w⟩
  · cases hr
theorem whole_run {name : String} {way : Ieee.Toward} {x : Nat} {d : Ieee.Datum} (h : Ieee.double.read x = d) (hd : ∀ s t, d ≠ .nan s t) :
    Extern.MathFloor.toIntegral name way #[.float .f64 x] = pure (.float .f64 (Ieee.double.write (d.integral way))) := by
  show (match Ieee.double.read x with | .nan s t => _ | d => pure (Value.float .f64 (Ieee.double.write (d.integral way)))) = _
  rw [h]
  cases d with
  | number s m e => rfl
  | infinity s => rfl
  | nan s t => exact absurd rfl (hd s t)
theorem e279 : ExtOk Tryz.prog 279 (xWhole .even) := by
  intro R args k r hr
  unfold xWhole at hr; split at hr
  · rename_i x
    split at hr
    · cases hr
    · rename_i d hd
      rw [forceN_eq] at hr
      exact ⟨rfl, _, hr, rfl, fun w => run_ext Tryz.func279 (by kernel_rfl) (by kernel_rfl) (show Extern.find Tryz.f279 = some (Extern.MathFloor.toIntegral "math.RoundToEven" .even) by kernel_rfl) (by kernel_rfl) (whole_run rfl hd) w⟩
  · cases hr
theorem e280 : ExtOk Tryz.prog 280 (xWhole .zero) := by
  intro R args k r hr
  unfold xWhole at hr; split at hr
  · rename_i x
    split at hr
    · cases hr
    · rename_i d hd
      rw [forceN_eq] at hr
      exact ⟨rfl, _, hr, rfl, fun w => run_ext Tryz.func280 (by kernel_rfl) (by kernel_rfl) (show Extern.find Tryz.f280 = some (Extern.MathFloor.toIntegral "math.archTrunc" .zero) by kernel_rfl) (by kernel_rfl) (whole_run rfl hd) w⟩
  · cases hr

inductive ExtsOk (P : Program) : List (Nat × Sum) → Prop
  | nil : ExtsOk P []
  | cons {f : Nat} {g : Sum} {r : List (Nat × Sum)} (h : ExtOk P f g) (hr : ExtsOk P r) : ExtsOk P ((f, g) :: r)
theorem exts_ok {P : Program} : ∀ {l : List (Nat × Sum)}, ExtsOk P l → ∀ f g, tab l f = some g → ExtOk P f g
  | _, .nil, f, g, h => by simp [tab] at h
  | _, .cons (f := n) h hr, f, g, h' => by
    unfold tab at h'
    cases hb : Nat.beq n f with
    | true =>
      rw [hb] at h'
      cases h'
      rw [Nat.eq_of_beq_eq_true hb] at h
      exact h
    | false => rw [hb] at h'; exact exts_ok hr f g h'
theorem extL_ok : ExtsOk Tryz.prog extL := .cons e144 (.cons e145 (.cons e279 (.cons e280 .nil)))
end Go.Vm
namespace Go.Vm
open Ieee
set_option linter.unusedVariables false
set_option linter.unusedSimpArgs false

theorem and_two_pow' (y i : Nat) : y &&& 2 ^ i = (y.testBit i).toNat * 2 ^ i := by
  apply Nat.eq_of_testBit_eq
  intro j
  rw [Nat.testBit_and, Nat.testBit_two_pow]
  by_cases h : i = j
  · subst h
    cases y.testBit i
    · simp
    · simp [Nat.testBit_two_pow_self]
  · cases y.testBit i
    · simp [h]
    · simp [Nat.testBit_two_pow, h]

theorem strip_eq {s : Bool} {E f : Nat} (hE : E ≤ 2046) (hf : f < 2 ^ 52) : andNotU ((((if s then 2 ^ 63 else 0) + E * 2 ^ 52 + f : Nat)) : Int) 9218868437227405312 = (((if s then 2 ^ 63 else 0) + f : Nat) : Int) := by
  have hlt : (if s then 2 ^ 63 else 0) + E * 2 ^ 52 + f < 2 ^ 64 := by split <;> omega
  have h1 := andNotU_eq (a := (if s then 2 ^ 63 else 0) + E * 2 ^ 52 + f) (b := 9218868437227405312) hlt (by decide)
  have hm : 2 ^ 64 - 1 - 9218868437227405312 = 2 ^ 63 ||| (2 ^ 52 - 1) := by decide
  rw [hm, Nat.and_or_distrib_left, Nat.and_two_pow_sub_one_eq_mod, and_two_pow'] at h1
  have h2 : ((if s then 2 ^ 63 else 0) + E * 2 ^ 52 + f).testBit 63 = s := by
    rw [Nat.testBit_eq_decide_div_mod_eq]
    cases s
    · simp only [Bool.false_eq_true, if_false]
      have : (0 + E * 2 ^ 52 + f) / 2 ^ 63 % 2 = 0 := by omega
      rw [this]; rfl
    · simp only [if_true]
      have : (2 ^ 63 + E * 2 ^ 52 + f) / 2 ^ 63 % 2 = 1 := by omega
      rw [this]; rfl
  have h3 : ((if s then 2 ^ 63 else 0) + E * 2 ^ 52 + f) % 2 ^ 52 = f := by
    cases s
    · simp only [Bool.false_eq_true, if_false]; omega
    · simp only [if_true]; omega
  rw [h2, h3] at h1
  rw [show ((9218868437227405312 : Nat) : Int) = 9218868437227405312 by rfl] at h1
  rw [h1]
  congr 1
  cases s
  · simp
  · simp only [Bool.toNat_true, Nat.one_mul, if_true]
    have := Nat.two_pow_add_eq_or_of_lt (i := 63) (b := f) (by omega) 1
    rw [Nat.mul_one] at this
    exact this.symm

theorem lay_eq {s : Bool} {E f : Nat} (hE : E ≤ 2047) (hf : f < 2 ^ 52) : (orU ((((if s then 2 ^ 63 else 0) + f : Nat)) : Int) ((E * 2 ^ 52 : Nat) : Int)).toNat = (if s then 2 ^ 63 else 0) + E * 2 ^ 52 + f := by
  rw [orU_eq (by split <;> omega) (by omega), Int.toNat_natCast]
  have h1 : ((if s then 2 ^ 63 else 0) + f) = 2 ^ 52 * (if s then 2 ^ 11 else 0) ||| f := by
    rw [← Nat.two_pow_add_eq_or_of_lt hf]
    cases s
    · simp
    · simp only [if_true]
  have h2 : 2 ^ 52 * (if s then 2 ^ 11 else 0) ||| E * 2 ^ 52 = 2 ^ 52 * ((if s then 2 ^ 11 else 0) + E) := by
    have g1 : (if s then 2 ^ 11 else 0) + E = (if s then 2 ^ 11 else 0) ||| E := by
      cases s
      · simp
      · simp only [if_true]
        have := Nat.two_pow_add_eq_or_of_lt (i := 11) (b := E) (by omega) 1
        rwa [Nat.mul_one] at this
    rw [g1]
    generalize (if s then 2 ^ 11 else 0) = t
    rw [Nat.mul_comm (2 ^ 52) t, Nat.mul_comm (2 ^ 52)]
    have := @Nat.shiftLeft_or_distrib 52 t E
    simp only [Nat.shiftLeft_eq] at this
    exact this.symm
  rw [h1, Nat.or_assoc, Nat.or_comm f, ← Nat.or_assoc, h2, ← Nat.two_pow_add_eq_or_of_lt hf]
  cases s
  · simp only [Bool.false_eq_true, if_false]; omega
  · simp only [if_true]; omega

theorem copy_zero {y : Nat} (hy : y < 2 ^ 64) : ∃ w, Is w 0 ∧ ∀ (R : Type) (k : Nat → Option R), copyK R 0 y k = k w := by
  have h0 : andNotU 0 9223372036854775808 = 0 := by decide
  have h1 := andU_eq (a := y) (b := 9223372036854775808) hy (by decide)
  rw [show ((9223372036854775808 : Nat) : Int) = 9223372036854775808 by rfl] at h1
  have h2 : y &&& 9223372036854775808 = (y.testBit 63).toNat * 2 ^ 63 := by
    rw [show (9223372036854775808 : Nat) = 2 ^ 63 by decide, and_two_pow']
  refine ⟨(y.testBit 63).toNat * 2 ^ 63, ?_, fun R k => ?_⟩
  · cases y.testBit 63
    · simp only [Bool.toNat_false, Nat.zero_mul]
      exact ⟨by decide, false, 0, -1074, by decide, dv_zero _ _⟩
    · simp only [Bool.toNat_true, Nat.one_mul]
      exact ⟨by decide, true, 0, -1074, by decide, dv_zero _ _⟩
  · unfold copyK
    have h3 := orU_eq (a := 0) (b := (y.testBit 63).toNat * 2 ^ 63) (by decide) (by cases y.testBit 63 <;> decide)
    show k (orU (andNotU ((0 : Nat) : Int) 9223372036854775808) (andU y 9223372036854775808)).toNat = _
    rw [h1, h2]
    rw [show (andNotU ((0 : Nat) : Int) 9223372036854775808) = ((0 : Nat) : Int) from h0, h3, Int.toNat_natCast, Nat.zero_or]

theorem clampI_eq {n : Int} (h1 : -5000 ≤ n) (h2 : n ≤ 5000) : clampI n = n := by
  unfold clampI
  split <;> split <;> omega

/-- A word times a power of two, rounded once. -/
theorem scaleK_is {a : Nat} {x : Rat} {n : Int} (h : Is a x) (hn1 : -5000 ≤ n) (hn2 : n ≤ 5000) (hlt : (x * (2 : Rat) ^ n).abs < (2 : Rat) ^ (1023 : Int)) :
    ∃ r z, Is r z ∧ Rnd (x * (2 : Rat) ^ n) z ∧ ∀ (R : Type) (k : Nat → Option R), scaleK R a n k = k r := by
  have hdef : ∀ (R : Type) (k : Nat → Option R), scaleK R a n k = ldexpK R a n k := fun R k => by
    show ldexpK R a (clampI n) k = _
    rw [clampI_eq hn1 hn2]
  by_cases hx : x = 0
  · subst hx
    refine ⟨a, 0, h, ⟨.inl ?_, fun K q _ _ e => ?_⟩, fun R k => ?_⟩
    · rw [Rat.zero_mul, Rat.sub_self, abs_zero]; simp
    · exact (Rat.zero_mul _).symm
    · rw [hdef]
      unfold ldexpK ldexpB
      rw [forceB_eq, eqF_is h is_zero]
      simp
  · obtain ⟨y, e, he, hy, hnn, hk⟩ := normK_is h hx
    have hyw := hy.1
    obtain ⟨s, E, f, rfl, b1, b2, b3, hv⟩ := normal_fields hy hnn
    obtain ⟨d1, d2⟩ := dv_band (s := s) (E := E) b3
    have hx0 : ¬ (x = ((0 : Int) : Rat)) := by simpa using hx
    -- the exponent
    have hxe : x * (2 : Rat) ^ n = dv s (2 ^ 52 + f) ((E : Int) - 1075) * (2 : Rat) ^ (n + e) := by
      rw [← hv, Rat.mul_assoc, ← p2_add]
      congr 2
      omega
    have hdv : ∀ j : Int, dv s (2 ^ 52 + f) ((E : Int) - 1075) * (2 : Rat) ^ j = dv s (2 ^ 52 + f) ((E : Int) - 1075 + j) := fun j => by
      unfold dv; rw [p2_add]; grind
    have hlo : (2 : Rat) ^ (n + e + E - 1023) ≤ (x * (2 : Rat) ^ n).abs := by
      rw [hxe, abs_mul, p2_abs]
      have := Rat.mul_le_mul_of_nonneg_right d1 (Rat.le_of_lt (p2_pos (n + e)))
      rw [← p2_add, show (E : Int) - 1023 + (n + e) = n + e + E - 1023 by omega] at this
      exact this
    have hhi : (x * (2 : Rat) ^ n).abs < (2 : Rat) ^ (n + e + E - 1022) := by
      rw [hxe, abs_mul, p2_abs]
      have := Rat.mul_lt_mul_of_pos_right d2 (p2_pos (n + e))
      rw [← p2_add, show (E : Int) - 1022 + (n + e) = n + e + E - 1022 by omega] at this
      exact this
    have hex : n + e + E - 1023 < 1023 := p2_lt_of (by grind)
    have hgo : ∀ (R : Type) (k : Nat → Option R), scaleK R a n k = ldexpTail fiReal copyK ((if s then 2 ^ 63 else 0) + E * 2 ^ 52 + f) e n k := fun R k => by
      rw [hdef]
      unfold ldexpK ldexpB
      rw [forceB_eq, eqF_is h is_zero]
      simp only [hx0, decide_false]
      rw [isInfK_no h, forceB_eq]
      simp only
      rw [isNanK_no h, forceB_eq]
      simp only
      rw [hk]
    have hexpo : IntKind.i64.wrap (andI (IntKind.i64.wrap (shrU ((((if s then 2 ^ 63 else 0) + E * 2 ^ 52 + f : Nat)) : Int) 52)) 2047 - 1023) = (E : Int) - 1023 := by
      have h1 : ((if s then 2 ^ 63 else 0) + E * 2 ^ 52 + f) / 2 ^ 52 = (if s then 2048 else 0) + E := by
        cases s
        · simp only [Bool.false_eq_true, if_false]; omega
        · simp only [if_true]; omega
      rw [shrU_eq, h1, wrapI (n := (((if s then 2048 else 0) + E : Nat) : Int)) (by split <;> omega) (by split <;> omega)]
      have h2 := andI_eq (a := (if s then 2048 else 0) + E) (b := 2047) (by split <;> omega) (by decide)
      have h3 : ((if s then 2048 else 0) + E) &&& 2047 = E := by
        have := Nat.and_two_pow_sub_one_eq_mod ((if s then 2048 else 0) + E) 11
        rw [show 2 ^ 11 - 1 = 2047 by decide] at this
        rw [this]
        cases s
        · simp only [Bool.false_eq_true, if_false]; omega
        · simp only [if_true]; omega
      rw [h3, show ((2047 : Nat) : Int) = 2047 by rfl] at h2
      rw [h2, wrapI (by omega) (by omega)]
    have htail : ∀ (R : Type) (k : Nat → Option R), ldexpTail fiReal copyK ((if s then 2 ^ 63 else 0) + E * 2 ^ 52 + f) e n k =
        if n + e + E - 1023 < -1075 then copyK R 0 ((if s then 2 ^ 63 else 0) + E * 2 ^ 52 + f) k
        else if n + e + E - 1023 < -1022 then ldexpEnd fiReal ((if s then 2 ^ 63 else 0) + E * 2 ^ 52 + f) (n + e + E - 970) 4368491638549381120 k
        else ldexpEnd fiReal ((if s then 2 ^ 63 else 0) + E * 2 ^ 52 + f) (n + e + E - 1023) 4607182418800017408 k := fun R k => by
      unfold ldexpTail
      simp only [fiReal_fair R]
      rw [hexpo, wrapI (n := n + e) (by omega) (by omega), wrapI (n := n + e + ((E : Int) - 1023)) (by omega) (by omega)]
      rw [show n + e + ((E : Int) - 1023) = n + e + E - 1023 by omega]
      simp only [forceB_eq]
      by_cases c1 : n + e + E - 1023 < -1075
      · simp [c1]
      · have c2 : ¬ (n + e + E - 1023 > 1023) := by omega
        by_cases c3 : n + e + E - 1023 < -1022
        · simp only [c1, c2, c3, decide_false, decide_true, if_false, if_true]
          rw [wrapI (by omega) (by omega), show n + e + (E : Int) - 1023 + 53 = n + e + E - 970 by omega]
        · simp only [c1, c2, c3, decide_false, if_false]
    have hend : ∀ (ex : Int) (m : Nat) (R : Type) (k : Nat → Option R), -1022 ≤ ex → ex ≤ 1023 → ldexpEnd fiReal ((if s then 2 ^ 63 else 0) + E * 2 ^ 52 + f) ex m k =
        bindF (fbF .mul m ((if s then 2 ^ 63 else 0) + (ex + 1023).toNat * 2 ^ 52 + f)) k := fun ex m R k g1 g2 => by
      unfold ldexpEnd
      simp only [fiReal_fair R]
      rw [wrapI (by omega) (by omega), wrapU (by omega) (by omega), strip_eq b2 b3]
      obtain ⟨t, ht⟩ := Int.eq_ofNat_of_zero_le (show 0 ≤ ex + 1023 by omega)
      rw [ht, shlU_eq (by omega), lay_eq (by omega) b3, Int.toNat_natCast]
    by_cases c1 : n + e + E - 1023 < -1075
    · obtain ⟨w, g1, g2⟩ := copy_zero hyw
      have hsm : (x * (2 : Rat) ^ n).abs < (2 : Rat) ^ (-1075 : Int) := by
        have := p2_le (show n + e + E - 1022 ≤ -1075 by omega)
        grind
      refine ⟨w, 0, g1, ⟨.inr ?_, fun K q k1 k2 k3 => ?_⟩, fun R k => by rw [hgo, htail, if_pos c1, g2]⟩
      · rw [show (0 : Rat) - x * (2 : Rat) ^ n = -(x * (2 : Rat) ^ n) by grind, abs_neg]
        grind
      · rw [k3, abs_mul, int_abs, p2_abs] at hsm
        have hK : K.natAbs = 0 := by
          rcases Nat.eq_zero_or_pos K.natAbs with h0 | h0
          · exact h0
          · exfalso
            have f1 : ((1 : Nat) : Rat) ≤ ((K.natAbs : Nat) : Rat) := nat_cast_le h0
            have f2 := Rat.mul_le_mul_of_nonneg_right f1 (Rat.le_of_lt (p2_pos q))
            have f3 := p2_le (show (-1075 : Int) ≤ q by omega)
            have f4 : ((1 : Nat) : Rat) * (2 : Rat) ^ q = (2 : Rat) ^ q := by simp
            grind
        have : K = 0 := by omega
        rw [k3, this]
        simp
    · by_cases c3 : n + e + E - 1023 < -1022
      · have hw := fields_is (s := s) (E := (n + e + E - 970 + 1023).toNat) (f := f) (by omega) (by omega) b3
        have hval : (2 : Rat) ^ (-53 : Int) * dv s (2 ^ 52 + f) ((((n + e + E - 970 + 1023).toNat : Nat) : Int) - 1075) = x * (2 : Rat) ^ n := by
          rw [hxe, hdv, Rat.mul_comm]
          unfold dv
          rw [Rat.mul_assoc, Rat.mul_assoc, ← p2_add]
          congr 3
          omega
        obtain ⟨r, z, m1, m2, m3⟩ := mul_is is_m53 hw (by rw [hval]; exact hlt)
        rw [hval] at m3
        exact ⟨r, z, m2, m3, fun R k => by rw [hgo, htail, if_neg c1, if_pos c3, hend _ _ R k (by omega) (by omega), bindF_eq m1]⟩
      · have hw := fields_is (s := s) (E := (n + e + E - 1023 + 1023).toNat) (f := f) (by omega) (by omega) b3
        have hval : 1 * dv s (2 ^ 52 + f) ((((n + e + E - 1023 + 1023).toNat : Nat) : Int) - 1075) = x * (2 : Rat) ^ n := by
          rw [hxe, hdv, Rat.one_mul]
          congr 1
          omega
        obtain ⟨r, z, m1, m2, m3⟩ := mul_is is_one hw (by rw [hval]; exact hlt)
        rw [hval] at m3
        exact ⟨r, z, m2, m3, fun R k => by rw [hgo, htail, if_neg c1, if_neg c3, hend _ _ R k (by omega) (by omega), bindF_eq m1]⟩
end Go.Vm
namespace Go.Vm
open Ieee
set_option linter.unusedVariables false
set_option linter.unusedSimpArgs false

theorem sq_le {x m : Rat} (h : x.abs ≤ m) : x * x ≤ m * m := by
  obtain ⟨h1, h2⟩ := abs_le_iff.1 h
  have := Rat.mul_nonneg (show 0 ≤ m - x by grind) (show 0 ≤ m + x by grind)
  grind
theorem sq_nonneg (x : Rat) : 0 ≤ x * x := by
  rcases (Rat.le_total : 0 ≤ x ∨ x ≤ 0) with h | h
  · exact Rat.mul_nonneg h h
  · have := Rat.mul_nonneg (show 0 ≤ -x by grind) (show 0 ≤ -x by grind); grind
theorem sq_ge {x m : Rat} (h : m ≤ x.abs) (hm : 0 ≤ m) : m * m ≤ x * x := by
  rcases (Rat.le_total : 0 ≤ x ∨ x ≤ 0) with g | g
  · rw [Rat.abs_of_nonneg g] at h
    have h1 := Rat.mul_le_mul_of_nonneg_left h hm
    have h2 := Rat.mul_le_mul_of_nonneg_right h g
    grind
  · rw [Rat.abs_of_nonpos g] at h
    have h1 := Rat.mul_le_mul_of_nonneg_left h hm
    have h2 := Rat.mul_le_mul_of_nonneg_right h (show 0 ≤ -x by grind)
    grind

theorem e53_le : (2 : Rat) ^ (-53 : Int) ≤ 1 / 1000 := by
  have h6 := p2_le (show (-53 : Int) ≤ -10 by decide)
  have h7 : (2 : Rat) ^ (-10 : Int) * (2 : Rat) ^ (10 : Int) = 1 := by rw [← p2_add, show (-10 + 10 : Int) = 0 by decide, Rat.zpow_zero]
  have h8 : (2 : Rat) ^ (10 : Int) = 1024 := by rw [show (10 : Int) = ((10 : Nat) : Int) by rfl, p2_nat]; rfl
  rw [h8] at h7
  grind

/-- How far a rounded number is, coarsely. -/
theorem Rnd.coarse {x z : Rat} (h : Rnd x z) : (z - x).abs ≤ x.abs * (1 / 1000) + (2 : Rat) ^ (-1075 : Int) := by
  have h1 := Rat.mul_le_mul_of_nonneg_left e53_le (abs_nonneg x)
  have h2 := p2_pos (-1075)
  have h3 := abs_nonneg x
  rcases h.near with g | g <;> grind

theorem p2_small {q : Int} (h : q ≤ -53) : (2 : Rat) ^ q ≤ 1 / 1000 := Rat.le_trans (p2_le h) e53_le

theorem lt_p2_1023 {x : Rat} (h : x.abs ≤ 1000) : x.abs < (2 : Rat) ^ (1023 : Int) := by
  have h6 := p2_le (show (10 : Int) ≤ 1023 by decide)
  have h8 : (2 : Rat) ^ (10 : Int) = 1024 := by rw [show (10 : Int) = ((10 : Nat) : Int) by rfl, p2_nat]; rfl
  grind

theorem greatestK_is {a b : Nat} {x y : Rat} (ha : Is a x) (hb : Is b y) : ∃ (g : Nat) (G : Rat), Is g G ∧ x.abs ≤ G ∧ y.abs ≤ G ∧ (G = x.abs ∨ G = y.abs) ∧ ∀ (R : Type) (k : Nat → Option R), greatestK R a b k = k g := by
  have hdef : ∀ (R : Type) (k : Nat → Option R), greatestK R a b k = forceB (gtF (absW b) (absW a)) fun t => match t with
      | true => k (absW b)
      | false => k (absW a) := fun R k => rfl
  by_cases h : x.abs < y.abs
  · refine ⟨_, y.abs, abs_is hb, by grind, by grind, .inr rfl, fun R k => ?_⟩
    rw [hdef, forceB_eq, gtF_is (abs_is hb) (abs_is ha)]
    simp only [h, decide_true]
  · refine ⟨_, x.abs, abs_is ha, by grind, by grind, .inl rfl, fun R k => ?_⟩
    rw [hdef, forceB_eq, gtF_is (abs_is hb) (abs_is ha)]
    simp only [h, decide_false]

theorem lengthK_full {a b : Nat} {x y d : Rat} (ha : Is a x) (hb : Is b y) (hx : x.abs ≤ d) (hy : y.abs ≤ d) (d1 : (2 : Rat) ^ (-900 : Int) ≤ d) (d2 : d ≤ (2 : Rat) ^ (400 : Int)) :
    ∃ r L, Is r L ∧ L ≤ 2 * d ∧ (1 ≤ x.abs ∨ 1 ≤ y.abs → 1 / 4 ≤ L) ∧ ∀ (R : Type) (k : Nat → Option R), lengthK R a b k = k r := by
  have hd0 : 0 < d := by have := p2_pos (-900); grind
  obtain ⟨g, G, hg, gx, gy, hG, hgk⟩ := greatestK_is ha hb
  have hpre : ∀ (R : Type) (k : Nat → Option R), lengthK R a b k = forceB (eqF g 0) fun t => match t with
      | true => k 0
      | false => scaledK R a b fun x y e => squareK R x y fun s => sqrtK R s fun r => scaleK R r e k := fun R k => by
    unfold lengthK lengthB
    rw [isInfK_no ha, forceB_eq]
    simp only
    rw [isInfK_no hb, forceB_eq]
    simp only
    rw [isNanK_no ha, forceB_eq]
    simp only
    rw [isNanK_no hb, forceB_eq]
    simp only
    rw [hgk]
    rfl
  by_cases hG0 : G = 0
  · refine ⟨0, 0, by simpa using is_zero, by grind, fun h => absurd h (by grind), fun R k => ?_⟩
    rw [hpre, forceB_eq, eqF_is hg is_zero]
    simp [hG0]
  have hGd : G ≤ d := by rcases hG with h | h <;> grind
  have hGp : 0 < G := by have := abs_nonneg x; grind
  have hGa : G.abs = G := Rat.abs_of_nonneg (Rat.le_of_lt hGp)
  obtain ⟨w, n, n1, n2, n3, n4, hfr⟩ := frexpK_is hg hG0
  rw [hGa] at n1 n2
  have n5 : n ≤ 401 := by
    refine Int.not_lt.1 fun h => ?_
    have h1 := p2_le (show (401 : Int) ≤ n - 1 by omega)
    have h2 := p2_half 401
    rw [show (401 - 1 : Int) = 400 by decide] at h2
    have := p2_pos 400
    grind
  have pn := p2_pos (-n)
  have hcan : (2 : Rat) ^ n * (2 : Rat) ^ (-n) = 1 := p2_cancel n
  have hhalf : (2 : Rat) ^ (n - 1) * (2 : Rat) ^ (-n) = 1 / 2 := by
    have := p2_half n
    have h3 : (2 : Rat) ^ n * (2 : Rat) ^ (-n) = 2 * ((2 : Rat) ^ (n - 1) * (2 : Rat) ^ (-n)) := by rw [this]; grind
    grind
  have hD : 1 / 2 ≤ d * (2 : Rat) ^ (-n) := by
    have := Rat.mul_le_mul_of_nonneg_right (Rat.le_trans n1 hGd) (Rat.le_of_lt pn)
    rwa [hhalf] at this
  have up : ∀ {u : Rat}, u.abs ≤ G → u.abs ≤ d → (u * (2 : Rat) ^ (-n)).abs < 1 ∧ (u * (2 : Rat) ^ (-n)).abs ≤ d * (2 : Rat) ^ (-n) := fun {u} h1 h2 => by
    rw [abs_mul, p2_abs]
    have g1 := Rat.mul_lt_mul_of_pos_right (show u.abs < (2 : Rat) ^ n by grind) pn
    have g2 := Rat.mul_le_mul_of_nonneg_right h2 (Rat.le_of_lt pn)
    rw [hcan] at g1
    exact ⟨g1, g2⟩
  obtain ⟨ux1, ux2⟩ := up gx hx
  obtain ⟨uy1, uy2⟩ := up gy hy
  have hlow : 1 / 2 ≤ (x * (2 : Rat) ^ (-n)).abs ∨ 1 / 2 ≤ (y * (2 : Rat) ^ (-n)).abs := by
    have := Rat.mul_le_mul_of_nonneg_right n1 (Rat.le_of_lt pn)
    rw [hhalf] at this
    rcases hG with h | h
    · left; rw [abs_mul, p2_abs, ← h]; exact this
    · right; rw [abs_mul, p2_abs, ← h]; exact this
  obtain ⟨r1, X, i1, q1, s1⟩ := scaleK_is (n := -n) ha (by omega) (by omega) (lt_p2_1023 (by grind))
  obtain ⟨r2, Y, i2, q2, s2⟩ := scaleK_is (n := -n) hb (by omega) (by omega) (lt_p2_1023 (by grind))
  have c1 := q1.coarse
  have c2 := q2.coarse
  have ht : (2 : Rat) ^ (-1075 : Int) ≤ 1 / 1000 := p2_small (by decide)
  have ht0 := p2_pos (-1075)
  generalize hDD : d * (2 : Rat) ^ (-n) = D at *
  generalize x * (2 : Rat) ^ (-n) = X0 at *
  generalize y * (2 : Rat) ^ (-n) = Y0 at *
  generalize htt : (2 : Rat) ^ (-1075 : Int) = t at *
  have aX : X.abs ≤ X0.abs + (X - X0).abs := by have := abs_add_le (X - X0) X0; rw [show X - X0 + X0 = X by grind] at this; grind
  have aY : Y.abs ≤ Y0.abs + (Y - Y0).abs := by have := abs_add_le (Y - Y0) Y0; rw [show Y - Y0 + Y0 = Y by grind] at this; grind
  have aX' : X0.abs ≤ X.abs + (X - X0).abs := by have := abs_add_le X (X0 - X); rw [show X + (X0 - X) = X0 by grind, abs_sub_comm X0 X] at this; exact this
  have aY' : Y0.abs ≤ Y.abs + (Y - Y0).abs := by have := abs_add_le Y (Y0 - Y); rw [show Y + (Y0 - Y) = Y0 by grind, abs_sub_comm Y0 Y] at this; exact this
  have bX : X.abs ≤ 51 / 50 * D := by grind
  have bY : Y.abs ≤ 51 / 50 * D := by grind
  have bX1 : X.abs ≤ 51 / 50 := by grind
  have bY1 : Y.abs ≤ 51 / 50 := by grind
  have sX := sq_le bX
  have sY := sq_le bY
  have sX1 := sq_le bX1
  have sY1 := sq_le bY1
  have zX := sq_nonneg X
  have zY := sq_nonneg Y
  have aXX : (X * X).abs = X * X := Rat.abs_of_nonneg zX
  have aYY : (Y * Y).abs = Y * Y := Rat.abs_of_nonneg zY
  obtain ⟨r3, Pp, e3, i3, q3⟩ := mul_is i1 i1 (lt_p2_1023 (by rw [aXX]; grind))
  obtain ⟨r4, Qq, e4, i4, q4⟩ := mul_is i2 i2 (lt_p2_1023 (by rw [aYY]; grind))
  have c3 := q3.coarse
  have c4 := q4.coarse
  rw [aXX] at c3
  rw [aYY] at c4
  rw [htt] at c3 c4
  have f3 := abs_le_iff.1 c3
  have f4 := abs_le_iff.1 c4
  have hDsq : 1 / 4 ≤ D * D := by have := Rat.mul_le_mul_of_nonneg_left hD (show (0 : Rat) ≤ D by grind); grind
  have low : 11 / 50 ≤ X * X ∨ 11 / 50 ≤ Y * Y := by
    rcases hlow with h | h
    · left
      have : 47 / 100 ≤ X.abs := by grind
      have := sq_ge this (by grind)
      grind
    · right
      have : 47 / 100 ≤ Y.abs := by grind
      have := sq_ge this (by grind)
      grind
  have hPQ1 : Pp + Qq ≤ 106 / 50 * (D * D) := by grind
  have hPQ2 : 1 / 5 ≤ Pp + Qq := by rcases low with h | h <;> grind
  have hPQ3 : Pp + Qq ≤ 3 := by grind
  have aPQ : (Pp + Qq).abs = Pp + Qq := Rat.abs_of_nonneg (by grind)
  obtain ⟨r5, S, e5, i5, q5⟩ := add_is i3 i4 (lt_p2_1023 (by rw [aPQ]; grind))
  have c5 := q5.coarse
  rw [aPQ, htt] at c5
  have f5 := abs_le_iff.1 c5
  have hS1 : S ≤ 108 / 50 * (D * D) := by grind
  have hS2 : 1 / 10 ≤ S := by grind
  have hS3 : S ≤ 4 := by grind
  obtain ⟨r6, T, e6, i6, t0, t1⟩ := sqrt_is i5 (by grind)
    (by have := lt_p2_1023 (x := 4) (by rw [Rat.abs_of_nonneg (by decide)]; decide)
        have h6 := p2_le (show (10 : Int) ≤ 1000 by decide)
        have h8 : (2 : Rat) ^ (10 : Int) = 1024 := by rw [show (10 : Int) = ((10 : Nat) : Int) by rfl, p2_nat]; rfl
        grind) (by have := p2_small (show (-1000 : Int) ≤ -53 by decide); grind)
  have f6 := abs_le_iff.1 t1
  have e51 : (2 : Rat) ^ (-51 : Int) ≤ 4 / 1000 := by
    have h6 := p2_half (-51)
    have h7 := p2_half (-52)
    rw [show (-51 - 1 : Int) = -52 by decide] at h6
    rw [show (-52 - 1 : Int) = -53 by decide] at h7
    have := e53_le
    grind
  have m51 := Rat.mul_le_mul_of_nonneg_left e51 (show (0 : Rat) ≤ S by grind)
  have hT2 : T * T ≤ 11 / 5 * (D * D) := by grind
  have hT : T ≤ 3 / 2 * D := by
    refine Rat.not_lt.1 fun h => ?_
    have g1 := Rat.mul_le_mul_of_nonneg_left (Rat.le_of_lt h) (show (0 : Rat) ≤ 3 / 2 * D by grind)
    have g2 := Rat.mul_le_mul_of_nonneg_right (Rat.le_of_lt h) (Rat.le_of_lt t0)
    grind
  have hTn : T * (2 : Rat) ^ n ≤ 3 / 2 * d := by
    have g1 := Rat.mul_le_mul_of_nonneg_right hT (Rat.le_of_lt (p2_pos n))
    have g2 : D * (2 : Rat) ^ n = d := by rw [← hDD, Rat.mul_assoc, Rat.mul_comm ((2 : Rat) ^ (-n)), hcan]; grind
    grind
  have hTn0 : 0 ≤ T * (2 : Rat) ^ n := Rat.mul_nonneg (Rat.le_of_lt t0) (Rat.le_of_lt (p2_pos n))
  have aTn : (T * (2 : Rat) ^ n).abs = T * (2 : Rat) ^ n := Rat.abs_of_nonneg hTn0
  obtain ⟨r7, L, i7, q7, s7⟩ := scaleK_is (n := n) i6 (by omega) (by omega) (by
    rw [aTn]
    have g1 := p2_le (show (401 : Int) ≤ 1023 by decide)
    have g2 := p2_half 401
    rw [show (401 - 1 : Int) = 400 by decide] at g2
    grind)
  have c7 := q7.coarse
  rw [aTn, htt] at c7
  have f7 := abs_le_iff.1 c7
  have htd : t ≤ d * (1 / 1000) := by
    have g1 := Rat.mul_le_mul_of_nonneg_right d1 (Rat.le_of_lt (p2_pos (-175)))
    rw [← p2_add, show (-900 + -175 : Int) = -1075 by decide, htt] at g1
    have g2 := Rat.mul_le_mul_of_nonneg_left (p2_small (show (-175 : Int) ≤ -53 by decide)) (Rat.le_of_lt hd0)
    grind
  have hpos : 1 ≤ x.abs ∨ 1 ≤ y.abs → 1 / 4 ≤ L := fun h => by
    have hG1 : 1 ≤ G := by rcases h with h | h <;> grind
    have hn1 : 0 < n := by
      refine Int.not_le.1 fun h => ?_
      have g1 := p2_le h
      rw [show (2 : Rat) ^ (0 : Int) = 1 by simp] at g1
      grind
    have g1 := p2_le (show (1 : Int) ≤ n by omega)
    rw [p2_one] at g1
    have hT4 : 1 / 4 ≤ T := by
      refine Rat.not_lt.1 fun h => ?_
      have g2 := Rat.mul_le_mul_of_nonneg_left (Rat.le_of_lt h) (Rat.le_of_lt t0)
      grind
    have g3 := Rat.mul_le_mul_of_nonneg_left g1 (Rat.le_of_lt t0)
    grind
  refine ⟨r7, L, i7, by grind, hpos, fun R k => ?_⟩
  have hG0' : ¬ (G = ((0 : Int) : Rat)) := by simpa using hG0
  rw [hpre, forceB_eq, eqF_is hg is_zero]
  simp only [hG0', decide_false]
  unfold scaledK scaledB
  rw [hgk, hfr]
  rw [show (0 - n) = -n by omega, wrapI (by omega) (by omega), s1, s2]
  simp only [squareK, sqrtK]
  rw [bindF_eq e3, bindF_eq e4, bindF_eq e5, bindF_eq e6, s7]

theorem lengthK_le {a b : Nat} {x y d : Rat} (ha : Is a x) (hb : Is b y) (hx : x.abs ≤ d) (hy : y.abs ≤ d) (d1 : (2 : Rat) ^ (-900 : Int) ≤ d) (d2 : d ≤ (2 : Rat) ^ (400 : Int)) :
    ∃ r L, Is r L ∧ L ≤ 2 * d ∧ ∀ (R : Type) (k : Nat → Option R), lengthK R a b k = k r :=
  let ⟨r, L, h1, h2, _, h3⟩ := lengthK_full ha hb hx hy d1 d2
  ⟨r, L, h1, h2, h3⟩

/-- Near, from below. -/
theorem nearK_yes {a b c d m : Nat} {x y u v M e : Rat} (ha : Is a x) (hb : Is b y) (hc : Is c u) (hd : Is d v) (hm : Is m M) (hx : (x - u).abs ≤ e) (hy : (y - v).abs ≤ e) (e1 : (2 : Rat) ^ (-800 : Int) ≤ e) (e2 : e ≤ (2 : Rat) ^ (300 : Int)) (hM : 3 * e ≤ M) {R : Type} (k : Bool → Option R) :
    nearK R a b c d m k = k true := by
  have h300 := p2_le (show (300 : Int) ≤ 1022 by decide)
  have h1022 := p2_half 1023
  rw [show (1023 - 1 : Int) = 1022 by decide] at h1022
  have hp := p2_pos 1022
  have he0 : 0 < e := by have := p2_pos (-800); grind
  obtain ⟨p, X, f1, g1, r1⟩ := sub_is ha hc (by grind)
  obtain ⟨q, Y, f2, g2, r2⟩ := sub_is hb hd (by grind)
  have c1 := r1.coarse
  have c2 := r2.coarse
  have ht : (2 : Rat) ^ (-1075 : Int) ≤ e * (1 / 1000) := by
    have k1 := Rat.mul_le_mul_of_nonneg_right e1 (Rat.le_of_lt (p2_pos (-275)))
    rw [← p2_add, show (-800 + -275 : Int) = -1075 by decide] at k1
    have k2 := Rat.mul_le_mul_of_nonneg_left (p2_small (show (-275 : Int) ≤ -53 by decide)) (Rat.le_of_lt he0)
    grind
  have aX : X.abs ≤ 5 / 4 * e := by
    have := abs_add_le (X - (x - u)) (x - u)
    rw [show X - (x - u) + (x - u) = X by grind] at this
    grind
  have aY : Y.abs ≤ 5 / 4 * e := by
    have := abs_add_le (Y - (y - v)) (y - v)
    rw [show Y - (y - v) + (y - v) = Y by grind] at this
    grind
  have k900 := p2_le (show (-900 : Int) ≤ -800 by decide)
  have k400 := p2_le (show (301 : Int) ≤ 400 by decide)
  have k301 := p2_half 301
  rw [show (301 - 1 : Int) = 300 by decide] at k301
  obtain ⟨r, L, i1, l1, s1⟩ := lengthK_le g1 g2 aX aY (by grind) (by grind)
  unfold nearK nearB subK
  rw [bindF_eq f1, bindF_eq f2]
  simp only
  rw [s1, forceB_eq, leF_is i1 hm]
  have : L ≤ M := by grind
  simp only [this, decide_true]
end Go.Vm
namespace Go.Vm
open Ieee
set_option linter.unusedVariables false
set_option linter.unusedSimpArgs false

/-- the unit of roundings -/
def eps : Rat := (2 : Rat) ^ (-51 : Int)
theorem eps_pos : 0 < eps := p2_pos _
theorem Rnd.le {x z B : Rat} (h : Rnd x z) (hx : x.abs ≤ B) (hB : (2 : Rat) ^ (-1000 : Int) ≤ B) : (z - x).abs ≤ eps * B := by
  have h1 := p2_le (show (-53 : Int) ≤ -51 by decide)
  have h2 := Rat.mul_le_mul_of_nonneg_left h1 (abs_nonneg x)
  have h3 := Rat.mul_le_mul_of_nonneg_right hx (Rat.le_of_lt eps_pos)
  have h4 := Rat.mul_le_mul_of_nonneg_right hB (Rat.le_of_lt eps_pos)
  have h5 : (2 : Rat) ^ (-1075 : Int) ≤ (2 : Rat) ^ (-1000 : Int) * eps := by
    unfold eps; rw [← p2_add]; exact p2_le (by decide)
  unfold eps at *
  rcases h.near with g | g <;> grind

end Go.Vm
namespace Go.Vm
open Ieee
set_option linter.unusedVariables false
set_option linter.unusedSimpArgs false

/-! ### The square root of a complex number, in fractions -/
theorem eps_tiny : eps * 1000000000 ≤ 1 := by
  have h6 := p2_le (show (-51 : Int) ≤ -30 by decide)
  have h7 : (2 : Rat) ^ (-30 : Int) * (2 : Rat) ^ (30 : Int) = 1 := by rw [← p2_add, show (-30 + 30 : Int) = 0 by decide, Rat.zpow_zero]
  have h8 : (2 : Rat) ^ (30 : Int) = 1073741824 := by rw [show (30 : Int) = ((30 : Nat) : Int) by rfl, p2_nat]; rfl
  rw [h8] at h7
  unfold eps
  grind

end Go.Vm
namespace Go.Vm
open Go.Proofs
set_option linter.unusedVariables false
set_option maxRecDepth 1000000

theorem z_sub (R : Type) a b c d (k : Value → Option R) : evFn (cx Tryz.prog []) 10 21 [.complex .f64 a b, .complex .f64 c d] k = subK R a b c d fun x y => k (.complex .f64 x y) := by kernel_rfl
theorem z_mul (R : Type) a b c d (k : Value → Option R) : evFn (cx Tryz.prog []) 10 22 [.complex .f64 a b, .complex .f64 c d] k = mulK R a b c d fun x y => k (.complex .f64 x y) := by kernel_rfl
theorem z_add (R : Type) a b c d (k : Value → Option R) : evFn (cx Tryz.prog []) 10 84 [.complex .f64 a b, .complex .f64 c d] k = addK R a b c d fun x y => k (.complex .f64 x y) := by kernel_rfl
theorem z_neg (R : Type) a b (k : Value → Option R) : evFn (cx Tryz.prog []) 10 86 [.complex .f64 a b] k = negK R a b fun x y => k (.complex .f64 x y) := by kernel_rfl
theorem z_like (R : Type) a b (k : Value → Option R) : evFn (cx Tryz.prog []) 10 87 [.float .f64 a, .float .f64 b] k = likeK R a b fun t => k (.bool t) := by kernel_rfl
theorem z_Like (lk : KFFB) (R : Type) a b c d (k : Value → Option R) : evFn (cx Tryz.prog [(87, sFFB lk)]) 10 23 [.complex .f64 a b, .complex .f64 c d] k = LikeB lk R a b c d fun t => k (.bool t) := by kernel_rfl
theorem z_nought (R : Type) a b (k : Value → Option R) : evFn (cx Tryz.prog []) 10 81 [.complex .f64 a b] k = noughtK R a b fun t => k (.bool t) := by kernel_rfl
theorem z_abs (R : Type) a (k : Value → Option R) : evFn (cx Tryz.prog []) 10 53 [.float .f64 a] k = absK R a fun t => k (.float .f64 t) := by kernel_rfl
theorem z_within (ab : KFF) (R : Type) a b (k : Value → Option R) : evFn (cx Tryz.prog [(53, sFF ab)]) 10 80 [.float .f64 a, .float .f64 b] k = withinB ab R a b fun t => k (.bool t) := by kernel_rfl
theorem z_Within (wi : KFFB) (R : Type) a b c (k : Value → Option R) : evFn (cx Tryz.prog [(80, sFFB wi)]) 10 135 [.complex .f64 a b, .float .f64 c] k = WithinB wi R a b c fun t => k (.bool t) := by kernel_rfl
theorem z_place (wi : KCFB) (R : Type) a b (k : Value → Option R) : evFn (cx Tryz.prog [(135, sCFB wi)]) 10 79 [.complex .f64 a b] k = placeB wi R a b fun t => k (.bool t) := by kernel_rfl
end Go.Vm
namespace Go.Vm
open Go.Proofs
set_option linter.unusedVariables false
set_option maxRecDepth 1000000

theorem zm_ok : Tryz.prog.follows .mixedOrders = true := by kernel_rfl
theorem h21 : Has Tryz.prog 21 := ⟨Tryz.f21, _, Tryz.func21, by kernel_rfl, rfl⟩
theorem h22 : Has Tryz.prog 22 := ⟨Tryz.f22, _, Tryz.func22, by kernel_rfl, rfl⟩
theorem h23 : Has Tryz.prog 23 := ⟨Tryz.f23, _, Tryz.func23, by kernel_rfl, rfl⟩
theorem h53 : Has Tryz.prog 53 := ⟨Tryz.f53, _, Tryz.func53, by kernel_rfl, rfl⟩
theorem h79 : Has Tryz.prog 79 := ⟨Tryz.f79, _, Tryz.func79, by kernel_rfl, rfl⟩
theorem h80 : Has Tryz.prog 80 := ⟨Tryz.f80, _, Tryz.func80, by kernel_rfl, rfl⟩
theorem h81 : Has Tryz.prog 81 := ⟨Tryz.f81, _, Tryz.func81, by kernel_rfl, rfl⟩
theorem h84 : Has Tryz.prog 84 := ⟨Tryz.f84, _, Tryz.func84, by kernel_rfl, rfl⟩
theorem h86 : Has Tryz.prog 86 := ⟨Tryz.f86, _, Tryz.func86, by kernel_rfl, rfl⟩
theorem h87 : Has Tryz.prog 87 := ⟨Tryz.f87, _, Tryz.func87, by kernel_rfl, rfl⟩
theorem h135 : Has Tryz.prog 135 := ⟨Tryz.f135, _, Tryz.func135, by kernel_rfl, rfl⟩

section shapes
variable {P : Program} {l : List (Nat × Sum)} {n : Nat} {f : FuncId}
end shapes

theorem k21 : SumOk Tryz.prog 21 (sCCC subK) := ok_sCCC zm_ok .nil z_sub
theorem k22 : SumOk Tryz.prog 22 (sCCC mulK) := ok_sCCC zm_ok .nil z_mul
theorem k84 : SumOk Tryz.prog 84 (sCCC addK) := ok_sCCC zm_ok .nil z_add
theorem k86 : SumOk Tryz.prog 86 (sCC negK) := ok_sCC zm_ok .nil z_neg
theorem k87 : SumOk Tryz.prog 87 (sFFB likeK) := ok_sFFB zm_ok .nil z_like
theorem k23 : SumOk Tryz.prog 23 (sCCB LikeK) := ok_sCCB zm_ok (.cons k87 h87 .nil) (z_Like _)
theorem k81 : SumOk Tryz.prog 81 (sCB noughtK) := ok_sCB zm_ok .nil z_nought
theorem k53 : SumOk Tryz.prog 53 (sFF absK) := ok_sFF zm_ok .nil z_abs
theorem k80 : SumOk Tryz.prog 80 (sFFB withinK) := ok_sFFB zm_ok (.cons k53 h53 .nil) (z_within _)
theorem k135 : SumOk Tryz.prog 135 (sCFB WithinK) := ok_sCFB zm_ok (.cons k80 h80 .nil) (z_Within _)
theorem k79 : SumOk Tryz.prog 79 (sCB placeK) := ok_sCB zm_ok (.cons k135 h135 .nil) (z_place _)
end Go.Vm
