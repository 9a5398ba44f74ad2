/- A call of ChartThree returns true and leaves alone what was there; no conditions. The program's functions of ChartThere compute what the Lean functions tell; no conditions. A call of ChartThere returns true and leaves alone what was there; no conditions. What stands in the place of the hot functions is what they do; no conditions. A part of the evaluator and of what is told of floats; no conditions. The code of ForceLift's small functions computes just what is told of them; no conditions. What is listed of places and speeds about one circle is what the calls answer; no conditions. ForceLift's small functions are what is told of them; no conditions. -/
import Derived.Test.YtnbpfafngidimaaGreatVmP1
import Derived.Test.YtnbpfafngidimaaGreatVmP7
import Derived.Test.YtnbpfafngidimaaGreatVmLR
import Derived.Test.YtnbpfafngidimaaGreatVmV0
import Derived.Test.YtnbpfafngidimaaGreatVmP29
import Derived.Test.YtnbpfafngidimaaGreatVmM
import Derived.Test.YtnbpfafngidimaaGreatProg
namespace Go.Vm
open Go.Proofs
set_option linter.unusedVariables false
set_option linter.unusedSectionVars false
set_option maxRecDepth 1000000

theorem SumOk.weak {P : Program} {f : FuncId} {s1 s2 : Sum} (h : SumOk P f s1)
    (H : ∀ (R : Type) (args : List Value) (k : Value → Option R) (r : R), s2 R args k = some r → ∃ k', s1 R args k' = some r ∧ ∀ v, k' v = some r → k v = some r) : SumOk P f s2 := by
  intro R args k r hr
  obtain ⟨k', h1, h2⟩ := H R args k r hr
  obtain ⟨h3, v, h4, h5, h6⟩ := h R args k' r h1
  exact ⟨h3, v, h2 v h4, h5, h6⟩

theorem ok_sNever {P : Program} {f : FuncId} : SumOk P f sNever := fun R args k r hr => by cases hr

theorem cxe_ok {P : Program} {l es : List (Nat × Sum)} (h : AllOk P l) (he : ∀ f g, tab es f = some g → ExtOk P f g) : (cxf fiReal P l es).Ok where
  fair := fiReal_fair
  sums := fun f g hg => tab_ok h f g hg
  exts := he
  meths := fun t s f hf => by cases hf
  nan1 := fun f hf => by cases hf
  hs := fun f args H v h => by cases h

theorem sumOk_exts {P : Program} {l es : List (Nat × Sum)} (hm : P.follows .mixedOrders = true) (h : AllOk P l) (he : ∀ f g, tab es f = some g → ExtOk P f g) {n : Nat} {f : FuncId} {g : Sum}
    (hg : ∀ (R : Type) (args : List Value) (k : Value → Option R) (r : R), g R args k = some r → inns 0 args = true ∧ evFn (cxf fiReal P l es) n f args k = some r) : SumOk P f g := by
  intro R args k r h1
  obtain ⟨h2, h3⟩ := hg R args k r h1
  exact ⟨h2, evFn_sound (cxe_ok h he) hm h3 h2⟩

section shapes
variable {P : Program} {l : List (Nat × Sum)} {n : Nat} {f : FuncId}
theorem ok_sInf {g : KFB} (hm : P.follows .mixedOrders = true) (h : AllOk P l)
    (hg : ∀ (R : Type) a (k : Value → Option R), evFn (cx P l) n f [.float .f64 a, .int .i64 0] k = g R a fun t => k (.bool t)) : SumOk P f (sInf g) :=
  sumOk_of hm h (n := n) fun R args k r hr => by
    unfold sInf at hr; split at hr
    · rename_i a s
      cases hi : (s == 0) with
      | false => rw [hi] at hr; cases hr
      | true =>
        rw [hi] at hr
        have : s = 0 := by simpa using hi
        subst this
        exact ⟨rfl, by rw [hg]; simpa only [forceB_eq, cond_true] using hr⟩
    · cases hr
theorem ok_sFFI {g : KFFI} (hm : P.follows .mixedOrders = true) (h : AllOk P l)
    (hg : ∀ (R : Type) a (k : Value → Option R), evFn (cx P l) n f [.float .f64 a] k = g R a fun x e => k (.tuple ⟨[.float .f64 x, .int .i64 e]⟩)) : SumOk P f (sFFI g) :=
  sumOk_of hm h (n := n) fun R args k r hr => by
    unfold sFFI at hr; split at hr
    · exact ⟨rfl, by rw [hg]; exact hr⟩
    · cases hr
theorem ok_sFIF {g : KFIF} (hm : P.follows .mixedOrders = true) (h : AllOk P l)
    (hg : ∀ (R : Type) a e (k : Value → Option R), evFn (cx P l) n f [.float .f64 a, .int .i64 e] k = g R a e fun x => k (.float .f64 x)) : SumOk P f (sFIF g) :=
  sumOk_of hm h (n := n) fun R args k r hr => by
    unfold sFIF at hr; split at hr
    · exact ⟨rfl, by rw [hg]; exact hr⟩
    · cases hr
theorem ok_sFFF {g : KFFF} (hm : P.follows .mixedOrders = true) (h : AllOk P l)
    (hg : ∀ (R : Type) a b (k : Value → Option R), evFn (cx P l) n f [.float .f64 a, .float .f64 b] k = g R a b fun x => k (.float .f64 x)) : SumOk P f (sFFF g) :=
  sumOk_of hm h (n := n) fun R args k r hr => by
    unfold sFFF at hr; split at hr
    · exact ⟨rfl, by rw [hg]; exact hr⟩
    · cases hr
theorem ok_sCF {g : KCF} (hm : P.follows .mixedOrders = true) (h : AllOk P l)
    (hg : ∀ (R : Type) a b (k : Value → Option R), evFn (cx P l) n f [.complex .f64 a b] k = g R a b fun x => k (.float .f64 x)) : SumOk P f (sCF g) :=
  sumOk_of hm h (n := n) fun R args k r hr => by
    unfold sCF at hr; split at hr
    · exact ⟨rfl, by rw [hg]; exact hr⟩
    · cases hr
theorem ok_sCCI {g : KCCI} (hm : P.follows .mixedOrders = true) (h : AllOk P l)
    (hg : ∀ (R : Type) a b (k : Value → Option R), evFn (cx P l) n f [.complex .f64 a b] k = g R a b fun x y e => k (.tuple ⟨[.complex .f64 x y, .int .i64 e]⟩)) : SumOk P f (sCCI g) :=
  sumOk_of hm h (n := n) fun R args k r hr => by
    unfold sCCI at hr; split at hr
    · exact ⟨rfl, by rw [hg]; exact hr⟩
    · cases hr
end shapes

theorem h112 : Has Tryz.prog 112 := ⟨Tryz.f112, _, Tryz.func112, by kernel_rfl, rfl⟩
theorem h114 : Has Tryz.prog 114 := ⟨Tryz.f114, _, Tryz.func114, by kernel_rfl, rfl⟩
theorem h275 : Has Tryz.prog 275 := ⟨Tryz.f275, _, Tryz.func275, by kernel_rfl, rfl⟩
theorem h260 : Has Tryz.prog 260 := ⟨Tryz.f260, _, Tryz.func260, by kernel_rfl, rfl⟩
theorem h229 : Has Tryz.prog 229 := ⟨Tryz.f229, _, Tryz.func229, by kernel_rfl, rfl⟩
theorem h200 : Has Tryz.prog 200 := ⟨Tryz.f200, _, Tryz.func200, by kernel_rfl, rfl⟩
theorem h77 : Has Tryz.prog 77 := ⟨Tryz.f77, _, Tryz.func77, by kernel_rfl, rfl⟩
theorem h247 : Has Tryz.prog 247 := ⟨Tryz.f247, _, Tryz.func247, by kernel_rfl, rfl⟩
theorem h201 : Has Tryz.prog 201 := ⟨Tryz.f201, _, Tryz.func201, by kernel_rfl, rfl⟩
theorem h117 : Has Tryz.prog 117 := ⟨Tryz.f117, _, Tryz.func117, by kernel_rfl, rfl⟩
theorem h115 : Has Tryz.prog 115 := ⟨Tryz.f115, _, Tryz.func115, by kernel_rfl, rfl⟩
theorem h116 : Has Tryz.prog 116 := ⟨Tryz.f116, _, Tryz.func116, by kernel_rfl, rfl⟩
theorem h119 : Has Tryz.prog 119 := ⟨Tryz.f119, _, Tryz.func119, by kernel_rfl, rfl⟩
theorem h118 : Has Tryz.prog 118 := ⟨Tryz.f118, _, Tryz.func118, by kernel_rfl, rfl⟩
theorem h38 : Has Tryz.prog 38 := ⟨Tryz.f38, _, Tryz.func38, by kernel_rfl, rfl⟩
theorem h141 : Has Tryz.prog 141 := ⟨Tryz.f141, _, Tryz.func141, by kernel_rfl, rfl⟩
theorem h93 : Has Tryz.prog 93 := ⟨Tryz.f93, _, Tryz.func93, by kernel_rfl, rfl⟩
theorem h179 : Has Tryz.prog 179 := ⟨Tryz.f179, _, Tryz.func179, by kernel_rfl, rfl⟩
theorem h113 : Has Tryz.prog 113 := ⟨Tryz.f113, _, Tryz.func113, by kernel_rfl, rfl⟩
theorem h55 : Has Tryz.prog 55 := ⟨Tryz.f55, _, Tryz.func55, by kernel_rfl, rfl⟩

theorem k112 : SumOk Tryz.prog 112 (sInf isInfK) := ok_sInf zm_ok (.cons k53 h53 .nil) (z_isInf _)
theorem k114 : SumOk Tryz.prog 114 (sFB isNanK) := ok_sFB zm_ok .nil z_isNan
theorem k275 : SumOk Tryz.prog 275 (sFFI normK) := ok_sFFI zm_ok (.cons k53 h53 .nil) (z_norm _)
theorem k260 : SumOk Tryz.prog 260 (sFFI frexpK) := ok_sFFI zm_ok (.cons k112 h112 (.cons k114 h114 (.cons k275 h275 .nil))) (z_frexp fiReal _ _ _)
theorem k229 : SumOk Tryz.prog 229 (sFFI frexpK) := ok_sFFI zm_ok (.cons k260 h260 .nil) (z_Frexp _)
theorem k200 : SumOk Tryz.prog 200 (sFFI frexpK) := ok_sFFI zm_ok (.cons k229 h229 .nil) (z_Parts _)
theorem k77 : SumOk Tryz.prog 77 (sFFF copyK) := ok_sFFF zm_ok .nil z_copy
theorem k113 : SumOk Tryz.prog 113 sNever := ok_sNever
theorem k55 : SumOk Tryz.prog 55 sNever := ok_sNever
theorem k247 : SumOk Tryz.prog 247 (sFIF ldexpK) := ok_sFIF zm_ok (.cons k112 h112 (.cons k114 h114 (.cons k275 h275 (.cons k77 h77 (.cons k113 h113 .nil))))) (z_ldexp fiReal _ _ _ _)
theorem k201 : SumOk Tryz.prog 201 (sFIF ldexpK) := ok_sFIF zm_ok (.cons k247 h247 .nil) (z_Ldexp _)
theorem k117 : SumOk Tryz.prog 117 (sFIF scaleK) := ok_sFIF zm_ok (.cons k201 h201 .nil) (z_scale _)
theorem k115 : SumOk Tryz.prog 115 (sCF greatestK) := ok_sCF zm_ok (.cons k53 h53 .nil) (z_greatest _)
theorem k116 : SumOk Tryz.prog 116 (sCCI scaledK) := ok_sCCI zm_ok (.cons k115 h115 (.cons k200 h200 (.cons k117 h117 .nil))) (z_scaled _ _ _)
theorem k119 : SumOk Tryz.prog 119 (sCF squareK) := ok_sCF zm_ok .nil z_square

/-! ### math.Sqrt: its body calls what has no body -/
theorem z_sqrt (rt : KFF) (R : Type) a (k : Value → Option R) : evFn (cxf fiReal Tryz.prog [] [(202, sFF rt)]) 20 118 [.float .f64 a] k = rt R a fun x => k (.float .f64 x) := by kernel_rfl
theorem run_202 (a r : Nat) (h : Ieee.double.sqrt a = some r) (w : World) : (callFunc 202 #[.float .f64 a]).run Tryz.prog w = .ok (.value (.float .f64 r)) w := by
  have h1 : Tryz.prog.funcs[202]? = some Tryz.f202 := Tryz.func202
  have h2 : (Tryz.f202.name == "runtime.NumGoroutine") = false := by kernel_rfl
  have h3 : Tryz.f202.body.isNone = true := by kernel_rfl
  have h4 : Extern.find Tryz.f202 = some Extern.MathSqrt.sqrt := by kernel_rfl
  have h5 : (Extern.findNext Tryz.f202).isNone = true := by kernel_rfl
  have h5' : Extern.findNext Tryz.f202 = none := by simpa using h5
  have h6 : Extern.MathSqrt.sqrt #[.float .f64 a] = pure (.float .f64 r) := by
    show (match Ieee.double.sqrt a with | some r => _ | none => _) = _
    rw [h]
  unfold callFunc
  have h2' : Tryz.f202.name ≠ "runtime.NumGoroutine" := by simpa using h2
  have h3' : Tryz.f202.body = none := by simpa using h3
  simp [Sem.run_bind, h1, h2', h3', h4, h5', h6]
theorem e202 : ExtOk Tryz.prog 202 (sFF sqrtK) := by
  intro R args k r hr
  unfold sFF at hr; split at hr
  · rename_i a
    unfold sqrtK at hr
    cases hs : Ieee.double.sqrt a with
    | none => rw [hs] at hr; cases hr
    | some x =>
      rw [bindF_eq hs] at hr
      exact ⟨rfl, _, hr, rfl, fun w => run_202 a x hs w⟩
  · cases hr
theorem k118 : SumOk Tryz.prog 118 (sFF sqrtK) := sumOk_exts (l := []) (es := [(202, sFF sqrtK)]) (n := 20) zm_ok .nil
  (fun f g h => by
    unfold tab at h
    cases hb : Nat.beq 202 f with
    | true =>
      rw [hb] at h; cases h
      rw [← Nat.eq_of_beq_eq_true hb]; exact e202
    | false => rw [hb] at h; cases h)
  fun R args k r hr => by
    unfold sFF at hr; split at hr
    · exact ⟨rfl, by rw [z_sqrt]; exact hr⟩
    · cases hr
theorem k38 : SumOk Tryz.prog 38 (sCF lengthK) :=
  ok_sCF zm_ok (.cons k112 h112 (.cons k114 h114 (.cons k115 h115 (.cons k116 h116 (.cons k119 h119 (.cons k118 h118 (.cons k117 h117 (.cons k113 h113 (.cons k55 h55 .nil))))))))) (z_length _ _ _ _ _ _ _)
theorem k141 : SumOk Tryz.prog 141 (sFB finiteK) := ok_sFB zm_ok (.cons k53 h53 .nil) (z_finite _)
theorem k93 : SumOk Tryz.prog 93 (sCB FiniteK) := ok_sCB zm_ok (.cons k141 h141 .nil) (z_Finite _)
theorem k179 : SumOk Tryz.prog 179 (sCCC divK) := ok_sCCC zm_ok (.cons k53 h53 .nil) (z_div _)
end Go.Vm
namespace Go.Vm
open Go.Proofs
set_option linter.unusedVariables false
set_option maxRecDepth 1000000
theorem z_inf0 (ab : KFF) (R : Type) a (k : Value → Option R) : evFn (cx Tryz.prog [(53, sFF ab)]) 20 112 [.float .f64 a, .int .i64 0] k = isInfB ab R a fun t => k (.bool t) := by kernel_rfl
theorem z_infP (ab : KFF) (R : Type) a (k : Value → Option R) : evFn (cx Tryz.prog [(53, sFF ab)]) 20 112 [.float .f64 a, .int .i64 1] k = isInfPK R a fun t => k (.bool t) := by kernel_rfl
theorem z_infM (ab : KFF) (R : Type) a (k : Value → Option R) : evFn (cx Tryz.prog [(53, sFF ab)]) 20 112 [.float .f64 a, .int .i64 (-1)] k = isInfMK R a fun t => k (.bool t) := by kernel_rfl
theorem z_Inf (R : Type) (k : Value → Option R) : evFn (cx Tryz.prog []) 40 113 [.int .i64 1] k = k (.float .f64 9218868437227405312) := by kernel_rfl
theorem z_scl (R : Type) a b c (k : Value → Option R) : evFn (cx Tryz.prog []) 20 39 [.complex .f64 a b, .float .f64 c] k = sclK R a b c fun x y => k (.complex .f64 x y) := by kernel_rfl
end Go.Vm
namespace Go.Vm
open Go.Proofs
set_option linter.unusedVariables false
set_option linter.unusedSectionVars false
set_option maxRecDepth 1000000

def sBk (t : Bool) (kind : Int) (L : List Int) (g : KMZ) : Sum := fun R args k => match args with
  | [v, .complex .f64 a b, .bool u] => oneM v fun i m => bif u == t && i == kind then g R m a b (zErrL L k) (zOk k) else none
  | _ => none

section shapes
variable {P : Program} {l : List (Nat × Sum)} {n : Nat} {f : FuncId}
theorem ok_sInf1 {s : Int} {g : KFB} (hm : P.follows .mixedOrders = true) (h : AllOk P l)
    (hg : ∀ (R : Type) a (k : Value → Option R), evFn (cx P l) n f [.float .f64 a, .int .i64 s] k = g R a fun t => k (.bool t)) :
    SumOk P f (fun R args k => match args with
      | [.float .f64 a, .int .i64 u] => bif u == s then g R a fun t => forceB t fun t => k (.bool t) else none
      | _ => none) :=
  sumOk_of hm h (n := n) fun R args k r hr => by
    split at hr
    · rename_i a u
      cases hi : (u == s) with
      | false => rw [hi] at hr; cases hr
      | true =>
        rw [hi] at hr
        have : u = s := by simpa using hi
        subst this
        exact ⟨rfl, by rw [hg]; simpa only [forceB_eq, cond_true] using hr⟩
    · cases hr
theorem ok_sCFC {g : KCFC} (hm : P.follows .mixedOrders = true) (h : AllOk P l)
    (hg : ∀ (R : Type) a b c (k : Value → Option R), evFn (cx P l) n f [.complex .f64 a b, .float .f64 c] k = g R a b c fun x y => k (.complex .f64 x y)) : SumOk P f (sCFC g) :=
  sumOk_of hm h (n := n) fun R args k r hr => by
    unfold sCFC at hr; split at hr
    · exact ⟨rfl, by rw [hg]; exact hr⟩
    · cases hr
end shapes

theorem h39 : Has Tryz.prog 39 := ⟨Tryz.f39, _, Tryz.func39, by kernel_rfl, rfl⟩
theorem k112' : SumOk Tryz.prog 112 (sInf3 isInfK isInfPK isInfMK) := by
  intro R args k r hr
  unfold sInf3 at hr
  split at hr
  · rename_i a s
    cases h0 : (s == 0) with
    | true => exact ok_sInf1 zm_ok (.cons k53 h53 .nil) (z_inf0 absK) R _ k r (by rw [h0] at hr; show (bif s == 0 then _ else _) = _; rw [h0]; exact hr)
    | false =>
      cases h1 : (s == 1) with
      | true => exact ok_sInf1 zm_ok (.cons k53 h53 .nil) (z_infP absK) R _ k r (by rw [h0, h1] at hr; show (bif s == 1 then _ else _) = _; rw [h1]; exact hr)
      | false =>
        cases h2 : (s == -1) with
        | true => exact ok_sInf1 zm_ok (.cons k53 h53 .nil) (z_infM absK) R _ k r (by rw [h0, h1, h2] at hr; show (bif s == -1 then _ else _) = _; rw [h2]; exact hr)
        | false => rw [h0, h1, h2] at hr; cases hr
  · cases hr
theorem k39 : SumOk Tryz.prog 39 (sCFC sclK) := ok_sCFC zm_ok .nil z_scl
end Go.Vm
namespace Go.Vm
open Go.Proofs
set_option linter.unusedVariables false
set_option maxRecDepth 1000000

/-! ### Hot functions: what stands in their place where closed sentences are computed -/
theorem h165 : Has Tryz.prog 165 := ⟨Tryz.f165, _, Tryz.func165, by kernel_rfl, rfl⟩
theorem h265 : Has Tryz.prog 265 := ⟨Tryz.f265, _, Tryz.func265, by kernel_rfl, rfl⟩
theorem h273 : Has Tryz.prog 273 := ⟨Tryz.f273, _, Tryz.func273, by kernel_rfl, rfl⟩
theorem h238 : Has Tryz.prog 238 := ⟨Tryz.f238, _, Tryz.func238, by kernel_rfl, rfl⟩
theorem h249 : Has Tryz.prog 249 := ⟨Tryz.f249, _, Tryz.func249, by kernel_rfl, rfl⟩
theorem h266 : Has Tryz.prog 266 := ⟨Tryz.f266, _, Tryz.func266, by kernel_rfl, rfl⟩
theorem h267 : Has Tryz.prog 267 := ⟨Tryz.f267, _, Tryz.func267, by kernel_rfl, rfl⟩
theorem h233 : Has Tryz.prog 233 := ⟨Tryz.f233, _, Tryz.func233, by kernel_rfl, rfl⟩
theorem h189 : Has Tryz.prog 189 := ⟨Tryz.f189, _, Tryz.func189, by kernel_rfl, rfl⟩

theorem k165 : SumOk Tryz.prog 165 sPi := sumOk_of zm_ok .nil (n := 60) fun R args k r hr => by
  unfold sPi at hr; split at hr
  · exact ⟨rfl, by rw [z_pi]; exact hr⟩
  · cases hr
theorem z_Inf2 (R : Type) (k : Value → Option R) : evFn (cx Tryz.prog []) 40 113 [.int .i64 (-1)] k = k (.float .f64 18442240474082181120) := by kernel_rfl
theorem k113'' : SumOk Tryz.prog 113 sInfW2 := sumOk_of zm_ok .nil (n := 40) fun R args k r hr => by
  unfold sInfW2 at hr; split at hr
  · rename_i s
    cases h1 : (s == 1) with
    | true =>
      rw [h1] at hr
      have : s = 1 := by simpa using h1
      subst this
      exact ⟨rfl, by rw [z_Inf]; exact hr⟩
    | false =>
      cases h2 : (s == -1) with
      | true =>
        rw [h1, h2] at hr
        have : s = -1 := by simpa using h2
        subst this
        exact ⟨rfl, by rw [z_Inf2]; exact hr⟩
      | false => rw [h1, h2] at hr; cases hr
  · cases hr
theorem k265 : SumOk Tryz.prog 265 (sFF coreK) := ok_sFF zm_ok (.cons k165 h165 .nil) z_core
theorem k273 : SumOk Tryz.prog 273 (sFF oddK) := ok_sFF zm_ok .nil z_odd
theorem k238 : SumOk Tryz.prog 238 (sFF logK) := ok_sFF zm_ok (.cons k112' h112 (.cons k55 h55 (.cons k113'' h113 (.cons k200 h200 (.cons k273 h273 .nil))))) (z_log fiReal _ _ _ _ _)
theorem k249 : SumOk Tryz.prog 249 (sFB signK) := ok_sFB zm_ok .nil (z_sign fiReal)
theorem k266 : SumOk Tryz.prog 266 (sFB minusK) := ok_sFB zm_ok (.cons k249 h249 .nil) (z_minus _)
theorem k267 : SumOk Tryz.prog 267 (sFFF signedK) := ok_sFFF zm_ok (.cons k266 h266 (.cons k53 h53 .nil)) (z_signed _ _)
theorem k233 : SumOk Tryz.prog 233 (sFFF angleK) :=
  ok_sFFF zm_ok (.cons k53 h53 (.cons k112' h112 (.cons k165 h165 (.cons k265 h265 (.cons k266 h266 (.cons k267 h267 (.cons k55 h55 .nil))))))) (z_angle _ _ _ _ _ _ _)
theorem k189 : SumOk Tryz.prog 189 (sCC powLogK) := ok_sCC zm_ok (.cons k38 h38 (.cons k238 h238 (.cons k233 h233 .nil))) (z_powLog _ _ _)

theorem m_speed_261 (v : Value) : calm Tryz.prog (method (Tryz.prog.types.size + Made.depth) 261 v "eddy/element.speed") = some (301, v) := by kernel_rfl
theorem m_speed_263 (v : Value) : calm Tryz.prog (method (Tryz.prog.types.size + Made.depth) 263 v "eddy/element.speed") = some (304, v) := by kernel_rfl
theorem m_speed_265 (v : Value) : calm Tryz.prog (method (Tryz.prog.types.size + Made.depth) 265 v "eddy/element.speed") = some (308, v) := by kernel_rfl
theorem m_speed_267 (v : Value) : calm Tryz.prog (method (Tryz.prog.types.size + Made.depth) 267 v "eddy/element.speed") = some (311, v) := by kernel_rfl
theorem m_speed_268 (v : Value) : calm Tryz.prog (method (Tryz.prog.types.size + Made.depth) 268 v "eddy/element.speed") = some (314, v) := by kernel_rfl
theorem m_potential_261 (v : Value) : calm Tryz.prog (method (Tryz.prog.types.size + Made.depth) 261 v "eddy/element.potential") = some (299, v) := by kernel_rfl
theorem m_potential_263 (v : Value) : calm Tryz.prog (method (Tryz.prog.types.size + Made.depth) 263 v "eddy/element.potential") = some (302, v) := by kernel_rfl
theorem m_potential_265 (v : Value) : calm Tryz.prog (method (Tryz.prog.types.size + Made.depth) 265 v "eddy/element.potential") = some (306, v) := by kernel_rfl
theorem m_potential_267 (v : Value) : calm Tryz.prog (method (Tryz.prog.types.size + Made.depth) 267 v "eddy/element.potential") = some (309, v) := by kernel_rfl
theorem m_potential_268 (v : Value) : calm Tryz.prog (method (Tryz.prog.types.size + Made.depth) 268 v "eddy/element.potential") = some (312, v) := by kernel_rfl
theorem m_slope_261 (v : Value) : calm Tryz.prog (method (Tryz.prog.types.size + Made.depth) 261 v "eddy/element.slope") = some (300, v) := by kernel_rfl
theorem m_slope_263 (v : Value) : calm Tryz.prog (method (Tryz.prog.types.size + Made.depth) 263 v "eddy/element.slope") = some (303, v) := by kernel_rfl
theorem m_slope_265 (v : Value) : calm Tryz.prog (method (Tryz.prog.types.size + Made.depth) 265 v "eddy/element.slope") = some (307, v) := by kernel_rfl
theorem m_slope_267 (v : Value) : calm Tryz.prog (method (Tryz.prog.types.size + Made.depth) 267 v "eddy/element.slope") = some (310, v) := by kernel_rfl
theorem m_slope_268 (v : Value) : calm Tryz.prog (method (Tryz.prog.types.size + Made.depth) 268 v "eddy/element.slope") = some (313, v) := by kernel_rfl
theorem pick5 {t f a1 a2 a3 a4 a5 b1 b2 b3 b4 b5 : Nat} (h : (bif Nat.beq t a1 then some b1 else bif Nat.beq t a2 then some b2 else bif Nat.beq t a3 then some b3 else bif Nat.beq t a4 then some b4 else bif Nat.beq t a5 then some b5 else none) = some f) :
    (t = a1 ∧ f = b1) ∨ (t = a2 ∧ f = b2) ∨ (t = a3 ∧ f = b3) ∨ (t = a4 ∧ f = b4) ∨ (t = a5 ∧ f = b5) := by
  cases h1 : Nat.beq t a1 with
  | true => rw [h1] at h; exact .inl ⟨Nat.eq_of_beq_eq_true h1, (Option.some.inj h).symm⟩
  | false =>
    rw [h1] at h; refine .inr ?_
    cases h1 : Nat.beq t a2 with
    | true => rw [h1] at h; exact .inl ⟨Nat.eq_of_beq_eq_true h1, (Option.some.inj h).symm⟩
    | false =>
      rw [h1] at h; refine .inr ?_
      cases h1 : Nat.beq t a3 with
      | true => rw [h1] at h; exact .inl ⟨Nat.eq_of_beq_eq_true h1, (Option.some.inj h).symm⟩
      | false =>
        rw [h1] at h; refine .inr ?_
        cases h1 : Nat.beq t a4 with
        | true => rw [h1] at h; exact .inl ⟨Nat.eq_of_beq_eq_true h1, (Option.some.inj h).symm⟩
        | false =>
          rw [h1] at h; refine .inr ?_
          cases h1 : Nat.beq t a5 with
          | true => rw [h1] at h; exact ⟨Nat.eq_of_beq_eq_true h1, (Option.some.inj h).symm⟩
          | false => rw [h1] at h; cases h
theorem meth_ok : ∀ t s f, methT t s = some f → ∀ v w, (method (Tryz.prog.types.size + Made.depth) t v s).run Tryz.prog w = .ok (f, v) w := by
  intro t s f h v w
  unfold methT at h
  cases h_speed : (s == "eddy/element.speed") with
  | true =>
    rw [h_speed] at h
    have e : s = "eddy/element.speed" := by simpa using h_speed
    subst e
    rcases pick5 h with ⟨rfl, rfl⟩ | ⟨rfl, rfl⟩ | ⟨rfl, rfl⟩ | ⟨rfl, rfl⟩ | ⟨rfl, rfl⟩
    · exact calm_run (m_speed_261 v) w
    · exact calm_run (m_speed_263 v) w
    · exact calm_run (m_speed_265 v) w
    · exact calm_run (m_speed_267 v) w
    · exact calm_run (m_speed_268 v) w
  | false =>
    rw [h_speed] at h
    simp only [cond_false] at h
    cases h_potential : (s == "eddy/element.potential") with
    | true =>
      rw [h_potential] at h
      have e : s = "eddy/element.potential" := by simpa using h_potential
      subst e
      rcases pick5 h with ⟨rfl, rfl⟩ | ⟨rfl, rfl⟩ | ⟨rfl, rfl⟩ | ⟨rfl, rfl⟩ | ⟨rfl, rfl⟩
      · exact calm_run (m_potential_261 v) w
      · exact calm_run (m_potential_263 v) w
      · exact calm_run (m_potential_265 v) w
      · exact calm_run (m_potential_267 v) w
      · exact calm_run (m_potential_268 v) w
    | false =>
      rw [h_potential] at h
      simp only [cond_false] at h
      cases h_slope : (s == "eddy/element.slope") with
      | true =>
        rw [h_slope] at h
        have e : s = "eddy/element.slope" := by simpa using h_slope
        subst e
        rcases pick5 h with ⟨rfl, rfl⟩ | ⟨rfl, rfl⟩ | ⟨rfl, rfl⟩ | ⟨rfl, rfl⟩ | ⟨rfl, rfl⟩
        · exact calm_run (m_slope_261 v) w
        · exact calm_run (m_slope_263 v) w
        · exact calm_run (m_slope_265 v) w
        · exact calm_run (m_slope_267 v) w
        · exact calm_run (m_slope_268 v) w
      | false =>
        rw [h_slope] at h
        simp only [cond_false] at h
        cases h

theorem nanW_abs {b : Nat} (h : nanW b = true) : nanW (absW b) = true := by
  unfold nanW Ieee.Format.read at h ⊢
  have h1 : Ieee.double.signWeight = 2 ^ 63 := by decide
  have hm : absW b % 2 ^ 63 = b % 2 ^ 63 := by rw [absW_eq]; omega
  simp only [h1, hm] at h ⊢
  split
  · rename_i h2
    rw [if_pos h2] at h; cases h
  · rename_i h2
    rw [if_neg h2] at h
    split
    · rename_i h3
      rw [if_pos h3] at h; cases h
    · rename_i h3
      rw [if_neg h3] at h
      split
      · rename_i h4
        rw [if_pos h4] at h; cases h
      · rfl
theorem nan53 : ∀ b, nanW b = true → ∀ w, Calls Tryz.prog 53 ⟨[.float .f64 b]⟩ w fun e w' => (∃ c, nanW c = true ∧ e = .returned (.float .f64 c)) ∧ RowKit.Below w.heap.size w w' := by
  intro b hb w
  obtain ⟨_, v, h1, _, h2⟩ := k53 Value [.float .f64 b] some (.float .f64 (absW b)) rfl
  cases h1
  exact (h2 w).mono fun e w' ⟨he, hg⟩ => ⟨⟨_, nanW_abs hb, he⟩, hg⟩

theorem cxm_ok {l : List (Nat × Sum)} (h : AllOk Tryz.prog l) : (cxm Tryz.prog l).Ok where
  fair := fiReal_fair
  sums := fun f g hg => tab_ok h f g hg
  exts := fun f g hg => exts_ok extL_ok f g hg
  meths := meth_ok
  nan1 := fun f hf => by
    have : f = 53 := Nat.eq_of_beq_eq_true hf
    subst this
    exact ⟨h53, nan53⟩
  hs := fun f args H v h => by cases h

theorem h243 : Has Tryz.prog 243 := ⟨Tryz.f243, _, Tryz.func243, by kernel_rfl, rfl⟩
theorem h244 : Has Tryz.prog 244 := ⟨Tryz.f244, _, Tryz.func244, by kernel_rfl, rfl⟩
theorem h245 : Has Tryz.prog 245 := ⟨Tryz.f245, _, Tryz.func245, by kernel_rfl, rfl⟩
theorem h199 : Has Tryz.prog 199 := ⟨Tryz.f199, _, Tryz.func199, by kernel_rfl, rfl⟩
theorem h217 : Has Tryz.prog 217 := ⟨Tryz.f217, _, Tryz.func217, by kernel_rfl, rfl⟩
theorem h221 : Has Tryz.prog 221 := ⟨Tryz.f221, _, Tryz.func221, by kernel_rfl, rfl⟩
theorem h258 : Has Tryz.prog 258 := ⟨Tryz.f258, _, Tryz.func258, by kernel_rfl, rfl⟩
theorem k243 : SumOk Tryz.prog 243 (sCB placeK) := ok_sCB zm_ok (.cons k135 h135 .nil) (z_reals _)
theorem k244 : SumOk Tryz.prog 244 (sCB noughtK) := ok_sCB zm_ok .nil z_nought2
theorem k245 : SumOk Tryz.prog 245 sWh1 := sumOk_of zm_ok .nil (n := 60) fun R args k r hr => by
  unfold sWh1 at hr; split at hr
  · rename_i p
    cases hp : Nat.beq p 4607182418800017408 with
    | false => rw [hp] at hr; cases hr
    | true =>
      rw [hp] at hr
      have := Nat.eq_of_beq_eq_true hp
      subst this
      exact ⟨rfl, by rw [z_wh1]; exact hr⟩
  · cases hr
theorem k245' : SumOk Tryz.prog 245 (sFB wh1) := k245.weak fun R args k r hr => by
  refine ⟨k, ?_, fun v hv => hv⟩
  unfold sFB at hr; split at hr
  · rename_i p
    unfold wh1 at hr
    cases hp : Nat.beq p 4607182418800017408 with
    | false => rw [hp] at hr; cases hr
    | true =>
      rw [hp] at hr
      show (bif Nat.beq p 4607182418800017408 then k (.bool true) else none) = some r
      rw [hp]
      exact hr
  · cases hr
theorem k199 : SumOk Tryz.prog 199 (sEI checkK) := sumOk_of zm_ok (.cons k243 h243 (.cons k80 h80 (.cons k244 h244 (.cons k245' h245 .nil)))) (n := 60) fun R args k r hr => by
  unfold sEI at hr; split at hr
  · rename_i kind a1 a2 s1 s2 p
    exact ⟨rfl, (z_echeck placeK withinK noughtK wh1 R kind a1 a2 s1 s2 p k).trans hr⟩
  · cases hr
theorem k221 : SumOk Tryz.prog 221 (sW2 mulK) := sumOk_of zm_ok (.cons k22 h22 .nil) (n := 60) fun R args k r hr => by
  unfold sW2 at hr; split at hr
  · rename_i a b n
    cases hn : (n == 2) with
    | false => rw [hn] at hr; cases hr
    | true =>
      rw [hn] at hr
      have : n = 2 := by simpa using hn
      subst this
      exact ⟨rfl, (z_whole2 mulK R a b k).trans hr⟩
  · cases hr
theorem k258 : SumOk Tryz.prog 258 (sFF2 stepsK) := sumOk_of zm_ok .nil (n := 60) fun R args k r hr => by
  unfold sFF2 at hr; split at hr
  · rename_i y
    exact ⟨rfl, (z_steps R y k).trans hr⟩
  · cases hr

theorem cxe_ok' {l : List (Nat × Sum)} (h : AllOk Tryz.prog l) : (cxe Tryz.prog l).Ok where
  fair := fiReal_fair
  sums := fun f g hg => tab_ok h f g hg
  exts := fun f g hg => by cases hg
  meths := meth_ok
  nan1 := fun f hf => by cases hf
  hs := fun f args H v h => by cases h
theorem k217 : SumOk Tryz.prog 217 (sSp spSK spOK spDK) := by
  intro R args k r hr
  unfold sSp at hr
  split at hr
  · rename_i kind a1 a2 s1 s2 p z1 z2
    cases h1 : (kind == 1 && Nat.beq p 0) with
    | true =>
      rw [h1] at hr
      simp only [Bool.and_eq_true, beq_iff_eq, Nat.beq_eq] at h1
      obtain ⟨rfl, rfl⟩ := h1
      exact ⟨rfl, evFn_sound (cxe_ok' (.cons k199 h199 (.cons k243 h243 (.cons k244 h244 (.cons k93 h93 (.cons k21 h21 .nil)))))) zm_ok ((z_spS placeK withinK noughtK FiniteK wh1 subK R a1 a2 s1 s2 z1 z2 k).trans hr) rfl⟩
    | false =>
      rw [h1] at hr
      simp only [cond_false] at hr
      cases h2 : (kind == 2 && Nat.beq p 0) with
      | true =>
        rw [h2] at hr
        simp only [Bool.and_eq_true, beq_iff_eq, Nat.beq_eq] at h2
        obtain ⟨rfl, rfl⟩ := h2
        exact ⟨rfl, evFn_sound (cxe_ok' (.cons k199 h199 (.cons k243 h243 (.cons k244 h244 (.cons k93 h93 (.cons k21 h21 (.cons k179 h179 (.cons k39 h39 (.cons k165 h165 .nil))))))))) zm_ok
          ((z_spO placeK withinK noughtK FiniteK wh1 subK divK sclK R a1 a2 s1 s2 z1 z2 k).trans hr) rfl⟩
      | false =>
        rw [h2] at hr
        simp only [cond_false] at hr
        cases h3 : (kind == 3 && Nat.beq p 4607182418800017408) with
        | true =>
          rw [h3] at hr
          simp only [Bool.and_eq_true, beq_iff_eq, Nat.beq_eq] at h3
          obtain ⟨rfl, rfl⟩ := h3
          exact ⟨rfl, evFn_sound (cxe_ok' (.cons k199 h199 (.cons k243 h243 (.cons k244 h244 (.cons k245 h245 (.cons k93 h93 (.cons k21 h21 (.cons k179 h179 (.cons k39 h39 (.cons k221 h221 .nil)))))))))) zm_ok
            ((z_spD placeK withinK noughtK FiniteK subK divK mulK sclK R a1 a2 s1 s2 z1 z2 k).trans hr) rfl⟩
        | false => rw [h3] at hr; cases hr
  · cases hr

theorem hot_ok : AllOk Tryz.prog hot :=
  .cons k199 h199 (.cons k217 h217 (.cons k258 h258 (.cons k243 h243 (.cons k244 h244 (.cons k245 h245 (.cons k221 h221 (.cons k53 h53 (.cons k22 h22 (.cons k84 h84 (.cons k21 h21 (.cons k80 h80 (.cons k135 h135 (.cons k141 h141 (.cons k93 h93 (.cons k179 h179 (.cons k81 h81 (.cons k86 h86
  (.cons k79 h79 (.cons k23 h23 (.cons k87 h87 (.cons k112' h112 (.cons k113'' h113 (.cons k114 h114 (.cons k275 h275 (.cons k260 h260 (.cons k229 h229 (.cons k200 h200 (.cons k77 h77
  (.cons k247 h247 (.cons k201 h201 (.cons k117 h117 (.cons k115 h115 (.cons k116 h116 (.cons k119 h119 (.cons k118 h118 (.cons k38 h38 (.cons k39 h39
  (.cons k165 h165 (.cons k265 h265 (.cons k273 h273 (.cons k238 h238 (.cons k249 h249 (.cons k266 h266 (.cons k267 h267 (.cons k233 h233 (.cons k189 h189 .nil))))))))))))))))))))))))))))))))))))))))))))))

end Go.Vm
namespace Go.Vm
open Go.Proofs
set_option linter.unusedVariables false
set_option linter.unusedSectionVars false
set_option linter.unusedSimpArgs false
set_option maxRecDepth 1000000

/-! ### Elements that lie in memory -/
structure El where
  kind : Int
  a1 : Nat
  a2 : Nat
  s1 : Nat
  s2 : Nat
  p : Nat
def El.cs (x : El) : List Value := [.int .u8 x.kind, .complex .f64 x.a1 x.a2, .complex .f64 x.s1 x.s2, .float .f64 x.p]
def ElsAt (cs : List Value) (o : Nat) (xs : List El) : Prop := ∀ i x, xs[i]? = some x → ∃ rest, cs.drop (o + i * 4) = x.cs ++ rest
theorem rEl_at {cs : List Value} {o : Nat} {xs : List El} (h : ElsAt cs o xs) {i : Nat} {x : El} (hx : xs[i]? = some x) (R : Type) (k : Int → Nat → Nat → Nat → Nat → Nat → Option R) : rEl R cs (o + i * 4) k = k x.kind x.a1 x.a2 x.s1 x.s2 x.p := by
  obtain ⟨rest, e⟩ := h i x hx
  unfold rEl
  rw [e]
  rfl
def flowV (o n c : Nat) : Value := .agg ⟨[.slice (some ⟨0, o, none⟩) n c]⟩

/-! ### flow.Check -/
noncomputable def ckLoop : Code := loopNo (codeOf 107) 0
def ckE (o n c : Nat) (k : Int) : Env := [(13, .int .i64 k), (12, .int .i64 n), (11, .slice (some ⟨0, o, none⟩) n c)]
def ckX (o n c : Nat) (k e : Int) : Env := [(13, .int .i64 k), (12, .int .i64 n), (11, .slice (some ⟨0, o, none⟩) n c), (2, .int .i64 e)]
noncomputable def ckC (fi : Fi) (ge : GEl) (st : St) (ap : Ap) (chk : KEI) : Cx := cxM fi Tryz.prog (fun _ _ => none) [(199, sEI chk)] [] [] [] (mmOf (fun b => Nat.blt b 1) [(66, gEl ge)] st ap)
theorem ck_round (fi : Fi) (R : Type) (ge : GEl) (st : St) (ap : Ap) (chk : KEI) (cs : List Value) (sz o n c k : Nat) (K : Ex → Env → Objs → Option R) :
    evTop (ckC fi ge st ap chk) 60 noL 1 23 ckLoop (ckE o n c k) ⟨2, [(0, .cells cs sz)]⟩ (takeC [13, 12, 11, 2] [] K) =
    bif decide ((k : Int) < n) then
      bif decide (0 ≤ (k : Int)) && decide ((k : Int) < n) && true then
        ge R cs (o + k * 4) fun kind a1 a2 s1 s2 p => chk R kind a1 a2 s1 s2 p fun e =>
          bif e != 0 then K .ret (ckX o n c k e) [] else fi R (IntKind.i64.wrap (k + 1)) fun m => K .normal (ckE o n c m) []
      else none
    else K (.exit 0) (ckE o n c k) [] := by kernel_rfl
theorem ck_top (fi : Fi) (L : Hand) (R : Type) (ge : GEl) (st : St) (ap : Ap) (chk : KEI) (cs : List Value) (sz o n c : Nat) (K : Ex → Env → Objs → Option R) :
    evTop (ckC fi ge st ap chk) 60 (slimL [13, 12, 11] [0] L) 1 23 (codeOf 107) (enumE 0 [flowV o n c]) ⟨1, [(0, .cells cs sz)]⟩ (takeC [2] [] K) =
    bif decide ((n : Int) > 256) then K .ret [(2, .int .i64 7)] []
    else L R 1 23 ckLoop (ckE o n c 0) ⟨2, [(0, .cells cs sz)]⟩ (leaveE 0 (thenE (fun e H => evTop (ckC fi ge st ap chk) 60 (slimL [13, 12, 11] [0] L) 1 23 (seqN 3 (codeOf 107)) e H (takeC [2] [] K)) (takeC [2] [] K))) := by kernel_rfl
theorem ck_end (fi : Fi) (L : Hand) (R : Type) (ge : GEl) (st : St) (ap : Ap) (chk : KEI) (cs : List Value) (sz o n c : Nat) (k : Int) (K : Ex → Env → Objs → Option R) :
    evTop (ckC fi ge st ap chk) 60 (slimL [13, 12, 11] [0] L) 1 23 (seqN 3 (codeOf 107)) (ckE o n c k) ⟨2, [(0, .cells cs sz)]⟩ (takeC [2] [] K) = K .ret [(2, .int .i64 0)] [] := by kernel_rfl
theorem ck_loops : loopsIn ckLoop = [] := by kernel_rfl
theorem ck_body : Tryz.f107.body = some (codeOf 107) := by kernel_rfl
theorem lds1 : LdsOk Tryz.prog [(66, gEl rEl)] := .cons (ldEl_ok more66) .nil
theorem no_meth {P : Program} : ∀ t s f, (fun (_ : TypeId) (_ : String) => (none : Option FuncId)) t s = some f → ∀ v w, (method (P.types.size + Made.depth) t v s).run P w = .ok (f, v) w := fun t s f h => by cases h
theorem no_ext {P : Program} : ∀ f g, tab ([] : List (Nat × Sum)) f = some g → ExtOk P f g := fun f g h => by cases h
theorem ckC_ok : (ckC fiReal rEl rSt (rAp Tryz.prog) checkK).Ok := cxM_ok no_meth (.cons k199 h199 .nil) no_ext .nil .nil (mmOf_ok lds1)
theorem wrap_up {k : Nat} (h : k < 1000000) : IntKind.i64.wrap ((k : Int) + 1) = ((k + 1 : Nat) : Int) := by
  rw [wrapI (by omega) (by omega)]; omega
def Told (er : El → Int) (x : El) : Prop := ∀ (R : Type) (k : Int → Option R), checkK R x.kind x.a1 x.a2 x.s1 x.s2 x.p k = k (er x)
def firstEr : List Int → Int
  | [] => 0
  | e :: r => if e = 0 then firstEr r else e
def flowEr (er : El → Int) (xs : List El) : Int := if 256 < xs.length then 7 else firstEr (xs.map er)
theorem idx_ok (k : Nat) : (decide (0 ≤ (k : Int)) && true && true) = true := by
  rw [decide_eq_true (show (0 : Int) ≤ (k : Int) by omega)]; rfl
section
variable {cs : List Value} {sz o c : Nat} {xs : List El} {er : El → Int}
theorem ck_step (hx : ElsAt cs o xs) (hn : xs.length ≤ 256) {k : Nat} {x : El} (hk : xs[k]? = some x) (he : Told er x) (h0 : er x = 0) :
    BaseOk Tryz.prog 1 23 ⟨2, [(0, .cells cs sz)]⟩ (ckE o xs.length c k) ⟨2, [(0, .cells cs sz)]⟩ .normal (ckE o xs.length c (k + 1 : Nat)) ⟨2, [(0, .cells cs sz)]⟩ (fun Q a w => ckLoop.wp Tryz.prog Q a w) := by
  have hkn := (List.getElem?_eq_some_iff.1 hk).1
  exact round_told (C := ckC fiReal rEl rSt (rAp Tryz.prog) checkK) (H0 := ⟨2, [(0, .cells cs sz)]⟩) (e := ckE o xs.length c k) (H := ⟨2, [(0, .cells cs sz)]⟩) (n := 60) (ts := [13, 12, 11, 2]) (bo := []) (bs := []) (A := []) (B := [(0, .cells cs sz)]) (D := []) ckC_ok zm_ok ck_loops
    (by rw [ck_round, decide_eq_true (show (k : Int) < xs.length by omega), cond_true, idx_ok, cond_true, rEl_at hx hk, he, h0]
        show fiReal _ _ _ = _
        rw [fiReal_fair, wrap_up (by omega)]) rfl rfl rfl rfl rfl rfl rfl
theorem ck_bad (hx : ElsAt cs o xs) (hn : xs.length ≤ 256) {k : Nat} {x : El} (hk : xs[k]? = some x) (he : Told er x) (h0 : er x ≠ 0) :
    BaseOk Tryz.prog 1 23 ⟨2, [(0, .cells cs sz)]⟩ (ckE o xs.length c k) ⟨2, [(0, .cells cs sz)]⟩ .ret (ckX o xs.length c k (er x)) ⟨2, [(0, .cells cs sz)]⟩ (fun Q a w => ckLoop.wp Tryz.prog Q a w) := by
  have hkn := (List.getElem?_eq_some_iff.1 hk).1
  exact round_told (C := ckC fiReal rEl rSt (rAp Tryz.prog) checkK) (H0 := ⟨2, [(0, .cells cs sz)]⟩) (e := ckE o xs.length c k) (H := ⟨2, [(0, .cells cs sz)]⟩) (n := 60) (ts := [13, 12, 11, 2]) (bo := []) (bs := []) (A := []) (B := [(0, .cells cs sz)]) (D := []) ckC_ok zm_ok ck_loops
    (by rw [ck_round, decide_eq_true (show (k : Int) < xs.length by omega), cond_true, idx_ok, cond_true, rEl_at hx hk, he, show (er x != 0) = true by simpa using h0]
        rfl) rfl rfl rfl rfl rfl rfl rfl
theorem ck_last {n : Nat} :
    BaseOk Tryz.prog 1 23 ⟨2, [(0, .cells cs sz)]⟩ (ckE o n c n) ⟨2, [(0, .cells cs sz)]⟩ (.exit 0) (ckE o n c n) ⟨2, [(0, .cells cs sz)]⟩ (fun Q a w => ckLoop.wp Tryz.prog Q a w) :=
  round_told (C := ckC fiReal rEl rSt (rAp Tryz.prog) checkK) (H0 := ⟨2, [(0, .cells cs sz)]⟩) (e := ckE o n c n) (H := ⟨2, [(0, .cells cs sz)]⟩) (n := 60) (ts := [13, 12, 11, 2]) (bo := []) (bs := []) (A := []) (B := [(0, .cells cs sz)]) (D := []) ckC_ok zm_ok ck_loops
    (by rw [ck_round, decide_eq_false (by omega)]; rfl) rfl rfl rfl rfl rfl rfl rfl
theorem ck_rounds (hx : ElsAt cs o xs) (hn : xs.length ≤ 256) (he : ∀ x ∈ xs, Told er x) : ∀ (ys : List El) (k : Nat), xs.drop k = ys → k ≤ xs.length →
    ∃ ex e', BaseRounds Tryz.prog 1 23 ⟨2, [(0, .cells cs sz)]⟩ ckLoop (ckE o xs.length c k) ⟨2, [(0, .cells cs sz)]⟩ ex e' ⟨2, [(0, .cells cs sz)]⟩ ∧
      ((ex = .exit 0 ∧ e' = ckE o xs.length c xs.length ∧ firstEr (ys.map er) = 0) ∨ (ex = .ret ∧ ∃ j : Nat, e' = ckX o xs.length c j (firstEr (ys.map er))))
  | [], k, hd, hk => by
    have : k = xs.length := by have := congrArg List.length hd; rw [List.length_drop] at this; simp at this; omega
    subst this
    exact ⟨_, _, base_end (by intro h; cases h) ck_last, .inl ⟨rfl, rfl, rfl⟩⟩
  | y :: ys, k, hd, hk => by
    have hkx : xs[k]? = some y := by rw [← List.head?_drop, hd]; rfl
    have hm : y ∈ xs := List.mem_of_getElem? hkx
    have hl := (List.getElem?_eq_some_iff.1 hkx).1
    by_cases h0 : er y = 0
    · obtain ⟨ex, e', h1, h2⟩ := ck_rounds hx hn he ys (k + 1) (by rw [← List.tail_drop, hd]; rfl) (by omega)
      refine ⟨ex, e', base_step (ck_step hx hn hkx (he y hm) h0) h1, ?_⟩
      simp only [List.map_cons, firstEr, if_pos h0]
      exact h2
    · refine ⟨_, _, base_end (by intro h; cases h) (ck_bad hx hn hkx (he y hm) h0), .inr ⟨rfl, k, ?_⟩⟩
      simp only [List.map_cons, firstEr, if_neg h0]
/-- FLOW.CHECK: the first error, if there is one -/
theorem check_call (hx : ElsAt cs o xs) (he : xs.length ≤ 256 → ∀ x ∈ xs, Told er x) : FlatCall Tryz.prog 107 [flowV o xs.length c] ⟨1, [(0, .cells cs sz)]⟩ (.int .i64 (flowEr er xs)) := by
  by_cases hn : 256 < xs.length
  · have h := ck_top fiReal noL (Ex × Env × Objs) rEl rSt (rAp Tryz.prog) checkK cs sz o xs.length c fun ex e O => some (ex, e, O)
    rw [decide_eq_true (by omega), cond_true] at h
    have := fun_flat (C := ckC fiReal rEl rSt (rAp Tryz.prog) checkK) ckC_ok zm_ok Tryz.func107 ck_body (fun a _ => slimL_ok noL_ok) (Nat.le_of_ble_eq_true rfl) h (.inr rfl) (vs := [.int .i64 7]) rfl rfl
    unfold flowEr
    rw [if_pos hn]
    exact this
  · obtain ⟨ex, e', h1, h2⟩ := ck_rounds (c := c) (sz := sz) hx (by omega) (he (by omega)) xs 0 rfl (Nat.zero_le _)
    have hl := @base_loop _ _ _ _ _ _ _ _ _ h1
    have h := ck_top fiReal (told Tryz.prog ex e' ⟨2, [(0, .cells cs sz)]⟩) (Ex × Env × Objs) rEl rSt (rAp Tryz.prog) checkK cs sz o xs.length c fun ex e O => some (ex, e, O)
    rw [decide_eq_false (by omega), cond_false] at h
    have h' := h.trans (told_eq @hl _ _)
    unfold flowEr
    rw [if_neg hn]
    rcases h2 with ⟨rfl, rfl, h2⟩ | ⟨rfl, j, rfl⟩
    · rw [leave_then, ck_end] at h'
      rw [h2]
      exact fun_flat (C := ckC fiReal rEl rSt (rAp Tryz.prog) checkK) ckC_ok zm_ok Tryz.func107 ck_body (fun a _ => slimL_ok (told_ok _ _ _ _ a)) (Nat.le_of_ble_eq_true rfl) h' (.inr rfl) (vs := [.int .i64 0]) rfl rfl
    · exact fun_flat (C := ckC fiReal rEl rSt (rAp Tryz.prog) checkK) ckC_ok zm_ok Tryz.func107 ck_body (fun a _ => slimL_ok (told_ok _ _ _ _ a)) (Nat.le_of_ble_eq_true rfl) h' (.inr rfl) (vs := [.int .i64 (firstEr (xs.map er))]) rfl rfl
end
end Go.Vm
namespace Go.Vm
open Go.Proofs
set_option linter.unusedVariables false
set_option linter.unusedSectionVars false
set_option linter.unusedSimpArgs false
set_option maxRecDepth 1000000

/-! ### Things, and the flow of them -/
abbrev KG2B := ∀ R : Type, Int → Int → (Bool → Option R) → Option R
abbrev KG2C := ∀ R : Type, Int → Int → (Nat → Nat → Option R) → Option R
def nilS : Value := .slice none 0 0
section
variable (fi : Fi) (R : Type) (g2 : GII) (gk gp : GI) (st : St) (ap : Ap) (sm : KG2B) (of : KG2C) (cs os : List Value) (sz n c k j : Nat) (K : Ex → Env → Objs → Option R)
end
end Go.Vm
namespace Go.Vm
open Go.Proofs
set_option linter.unusedVariables false
set_option linter.unusedSectionVars false
set_option linter.unusedSimpArgs false
set_option maxRecDepth 1000000

/-! ### Wall and Circle -/
section
variable (L : Hand) (R : Type) (gk ms : HT) (mt : MT) (cs fs : List Value) (sz n c m k : Nat) (K : Ex → Env → Objs → Option R)
end
theorem h107 : Has Tryz.prog 107 := ⟨Tryz.f107, _, Tryz.func107, by kernel_rfl, rfl⟩
section
variable {xs : List El} {sz c : Nat} {Good : El → Prop}
end
end Go.Vm
namespace Go.Vm
open Go.Proofs
set_option linter.unusedVariables false
set_option linter.unusedSectionVars false
set_option linter.unusedSimpArgs false
set_option maxRecDepth 1000000

/-! ### clean is told -/
/-- what is known of a circle and of how far the elements lie -/
structure Sight (c1 c2 r : Nat) where
  t : Nat
  rp : Nat
  rm : Nat
  lw : El → Nat
  ht : fbF .mul r 4517110426252607488 = some t
  hp : fbF .add r t = some rp
  hm : fbF .sub r t = some rm
theorem bindF_val {R : Type} {o : Option Nat} {x : Nat} (h : o = some x) (k : Nat → Option R) : bindF o k = k x := by
  subst h
  show forceN x k = k x
  rw [forceN_eq]
section
variable {cs : List Value} {sz o n c c1 c2 r : Nat} {b : Bool} {xs : List El} (S : Sight c1 c2 r)
end
end Go.Vm
namespace Go.Vm
open Go.Proofs
set_option linter.unusedVariables false
set_option maxRecDepth 1000000

/-! ### ForceLift's functions -/
def sTrueL : Sum := fun R args k => match args with | [] => k (.bool true) | _ => none
def sPi2 : Sum := fun R args k => match args with
  | [] => k (.tuple ⟨[.float .f64 4614256656552045848, .float .f64 4368955796522032135]⟩)
  | _ => none
theorem zl_conj (R : Type) (a b : Nat) (k : Value → Option R) : evFn (cx Tryz.prog []) 60 124 [.complex .f64 a b] k = conjK R a b fun x y => k (.complex .f64 x y) := by kernel_rfl
theorem zl_times (R : Type) (a b : Nat) (k : Value → Option R) : evFn (cx Tryz.prog []) 60 40 [.complex .f64 a b] k = timesK R a b fun x y => k (.complex .f64 x y) := by kernel_rfl
theorem zl_Pi (R : Type) (k : Value → Option R) : evFn (cx Tryz.prog []) 60 65 [] k = k (.tuple ⟨[.float .f64 4614256656552045848, .float .f64 4368955796522032135]⟩) := by kernel_rfl
end Go.Vm
namespace Go.Vm
open Go.Proofs
set_option linter.unusedVariables false
set_option maxRecDepth 1000000

/-! ### The places -/
theorem h52 : Has Tryz.prog 52 := ⟨Tryz.f52, _, Tryz.func52, by kernel_rfl, rfl⟩
/-! ### The speeds -/
end Go.Vm
namespace Go.Vm
open Go.Proofs
set_option linter.unusedVariables false
set_option maxRecDepth 1000000

/-! ### ForceLift's functions are what is told of them -/
theorem h124 : Has Tryz.prog 124 := ⟨Tryz.f124, _, Tryz.func124, by kernel_rfl, rfl⟩
theorem h40 : Has Tryz.prog 40 := ⟨Tryz.f40, _, Tryz.func40, by kernel_rfl, rfl⟩
theorem h65 : Has Tryz.prog 65 := ⟨Tryz.f65, _, Tryz.func65, by kernel_rfl, rfl⟩
theorem k124 : SumOk Tryz.prog 124 (sCC conjK) := ok_sCC zm_ok .nil zl_conj
theorem k40 : SumOk Tryz.prog 40 (sCC timesK) := ok_sCC zm_ok .nil zl_times
theorem k65 : SumOk Tryz.prog 65 sPi2 := sumOk_of zm_ok .nil (n := 60) fun R args k r hr => by
  unfold sPi2 at hr; split at hr
  · exact ⟨rfl, (zl_Pi R k).trans hr⟩
  · cases hr
def onlyT {R : Type} (k : Value → Option R) : Value → Option R := fun v => match v with | .bool true => k (.bool true) | _ => none
theorem onlyT_some {R : Type} {k : Value → Option R} {v : Value} {r : R} (h : onlyT k v = some r) : k v = some r := by
  unfold onlyT at h; split at h
  · exact h
  · cases h
theorem k93t : SumOk Tryz.prog 93 (sCB1 (fCT FiniteK)) := k93.weak fun R args k r hr => by
  unfold sCB1 at hr; split at hr
  · refine ⟨onlyT k, ?_, fun v hv => onlyT_some hv⟩
    unfold sCB
    simp only
    refine Eq.trans ?_ hr
    congr 1 <;> (funext t; cases t <;> rfl)
  · cases hr
theorem k141t : SumOk Tryz.prog 141 (sFB1 (fFT finiteK)) := k141.weak fun R args k r hr => by
  unfold sFB1 at hr; split at hr
  · refine ⟨onlyT k, ?_, fun v hv => onlyT_some hv⟩
    unfold sFB
    simp only
    refine Eq.trans ?_ hr
    congr 1 <;> (funext t; cases t <;> rfl)
  · cases hr
end Go.Vm
