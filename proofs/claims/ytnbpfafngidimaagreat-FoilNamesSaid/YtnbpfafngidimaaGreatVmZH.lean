/- What stands in the place of hot functions, listed; no conditions. The code of logarithms and angles computes just what is told of them; no conditions. The code of elements' speeds and of sines computes just what is told of them; no conditions. What functions without a body answer; no conditions. What stands in the place of the hot functions is what they do; no conditions. -/
import Derived.Test.YtnbpfafngidimaaGreatVmKH
import Derived.Test.YtnbpfafngidimaaGreatVmKF
import Derived.Test.YtnbpfafngidimaaGreatProg
import Derived.Test.YtnbpfafngidimaaGreatVmZ11
namespace Go.Vm
open Go.Proofs
set_option linter.unusedVariables false

/-! ### What stands in the place of hot functions -/
def checkK : KEI := checkB placeK withinK noughtK wh1
def spSK : ∀ R : Type, Nat → Nat → Nat → Nat → Nat → Nat → (Int → Option R) → (Nat → Nat → Option R) → Option R := spS checkK placeK noughtK FiniteK subK
def spOK : ∀ R : Type, Nat → Nat → Nat → Nat → Nat → Nat → (Int → Option R) → (Nat → Nat → Option R) → Option R := spO checkK placeK noughtK FiniteK subK divK sclK
def spDK : ∀ R : Type, Nat → Nat → Nat → Nat → Nat → Nat → (Int → Option R) → (Nat → Nat → Option R) → Option R := spD checkK placeK noughtK FiniteK subK divK mulK sclK
/-- the hot ones -/
def hot : List (Nat × Sum) := [(199, sEI checkK), (217, sSp spSK spOK spDK), (258, sFF2 stepsK), (243, sCB placeK), (244, sCB noughtK), (245, sWh1), (221, sW2 mulK), (53, sFF absK), (22, sCCC mulK), (84, sCCC addK), (21, sCCC subK), (80, sFFB withinK), (135, sCFB WithinK), (141, sFB finiteK), (93, sCB FiniteK), (179, sCCC divK), (81, sCB noughtK), (86, sCC negK),
  (79, sCB placeK), (23, sCCB LikeK), (87, sFFB likeK), (112, sInf3 isInfK isInfPK isInfMK), (113, sInfW2), (114, sFB isNanK), (275, sFFI normK), (260, sFFI frexpK), (229, sFFI frexpK), (200, sFFI frexpK), (77, sFFF copyK),
  (247, sFIF ldexpK), (201, sFIF ldexpK), (117, sFIF scaleK), (115, sCF greatestK), (116, sCCI scaledK), (119, sCF squareK), (118, sFF sqrtK), (38, sCF lengthK), (39, sCFC sclK),
  (165, sPi), (265, sFF coreK), (273, sFF oddK), (238, sFF logK), (249, sFB signK), (266, sFB minusK), (267, sFFF signedK), (233, sFFF angleK), (189, sCC powLogK)]
def methT (t : TypeId) (s : String) : Option FuncId :=
  bif s == "eddy/element.speed" then
    (bif Nat.beq t 261 then some 301 else bif Nat.beq t 263 then some 304 else bif Nat.beq t 265 then some 308 else bif Nat.beq t 267 then some 311 else bif Nat.beq t 268 then some 314 else none)
  else bif s == "eddy/element.potential" then
    (bif Nat.beq t 261 then some 299 else bif Nat.beq t 263 then some 302 else bif Nat.beq t 265 then some 306 else bif Nat.beq t 267 then some 309 else bif Nat.beq t 268 then some 312 else none)
  else bif s == "eddy/element.slope" then
    (bif Nat.beq t 261 then some 300 else bif Nat.beq t 263 then some 303 else bif Nat.beq t 265 then some 307 else bif Nat.beq t 267 then some 310 else bif Nat.beq t 268 then some 313 else none)
  else none
def wildT (f : FuncId) : Bool := Nat.beq f 142
def nanT (f : FuncId) : Bool := Nat.beq f 53
/-- the same without summaries of its own, for equations -/
def cxe (P : Program) (l : List (Nat × Sum)) : Cx := { P := P, sums := tab l, exts := fun _ => none, meths := methT, wild := fun _ => false, fi := fiReal, nn := false, nan1 := fun _ => false, defs := fun _ => false, hs := fun _ _ _ => none }
def extL : List (Nat × Sum) := [(144, xFrom), (145, xBits), (279, xWhole .even), (280, xWhole .zero)]
def cxm (P : Program) (l : List (Nat × Sum)) : Cx := { P := P, sums := tab l, exts := tab extL, meths := methT, wild := wildT, fi := fiReal, nn := true, nan1 := nanT, defs := fun f => Nat.beq f 190, hs := fun _ _ _ => none }
end Go.Vm
namespace Go.Vm
open Go.Proofs
set_option linter.unusedVariables false
set_option maxRecDepth 1000000
theorem z_pi (R : Type) (k : Value → Option R) : evFn (cx Tryz.prog []) 60 165 [] k = k (.tuple ⟨[.float .f64 4614256656552045848, .float .f64 4368955796522032135]⟩) := by kernel_rfl
theorem z_core (R : Type) t (k : Value → Option R) : evFn (cx Tryz.prog [(165, sPi)]) 60 265 [.float .f64 t] k = coreK R t fun x => k (.float .f64 x) := by kernel_rfl
theorem z_odd (R : Type) t (k : Value → Option R) : evFn (cx Tryz.prog []) 60 273 [.float .f64 t] k = oddK R t fun x => k (.float .f64 x) := by kernel_rfl
theorem z_log (fi : Fi) (g0 gp gm : KFB) (pa : KFFI) (odd : KFF) (R : Type) t (k : Value → Option R) : evFn (cxf fi Tryz.prog [(112, sInf3 g0 gp gm), (55, sNever), (113, sInfW2), (200, sFFI pa), (273, sFF odd)] []) 60 238 [.float .f64 t] k =
  logB fi gp pa odd R t fun x => k (.float .f64 x) := by kernel_rfl
theorem z_sign (fi : Fi) (R : Type) t (k : Value → Option R) : evFn (cxf fi Tryz.prog [] []) 60 249 [.float .f64 t] k = signB fi R t fun t => k (.bool t) := by kernel_rfl
theorem z_minus (sg : KFB) (R : Type) t (k : Value → Option R) : evFn (cx Tryz.prog [(249, sFB sg)]) 60 266 [.float .f64 t] k = minusB sg R t fun t => k (.bool t) := by kernel_rfl
theorem z_signed (mi : KFB) (ab : KFF) (R : Type) a b (k : Value → Option R) : evFn (cx Tryz.prog [(266, sFB mi), (53, sFF ab)]) 60 267 [.float .f64 a, .float .f64 b] k = signedB mi ab R a b fun x => k (.float .f64 x) := by kernel_rfl
theorem z_angle (ab : KFF) (g0 gp gm : KFB) (core : KFF) (mi : KFB) (sd : KFFF) (R : Type) a b (k : Value → Option R) :
  evFn (cx Tryz.prog [(53, sFF ab), (112, sInf3 g0 gp gm), (165, sPi), (265, sFF core), (266, sFB mi), (267, sFFF sd), (55, sNever)]) 60 233 [.float .f64 a, .float .f64 b] k = angleB ab gp core mi sd R a b fun x => k (.float .f64 x) := by kernel_rfl
theorem z_powLog (len : KCF) (lg : KFF) (an : KFFF) (R : Type) a b (k : Value → Option R) : evFn (cx Tryz.prog [(38, sCF len), (238, sFF lg), (233, sFFF an)]) 60 189 [.complex .f64 a b] k = powLogB len lg an R a b fun x y => k (.complex .f64 x y) := by kernel_rfl
end Go.Vm
namespace Go.Vm
open Go.Proofs
set_option linter.unusedVariables false
set_option maxRecDepth 1000000
theorem z_wh1 (R : Type) (k : Value → Option R) : evFn (cx Tryz.prog []) 60 245 [.float .f64 4607182418800017408] k = k (.bool true) := by kernel_rfl
theorem z_reals (wi : KCFB) (R : Type) a b (k : Value → Option R) : evFn (cx Tryz.prog [(135, sCFB wi)]) 60 243 [.complex .f64 a b] k = placeB wi R a b fun t => k (.bool t) := by kernel_rfl
theorem z_nought2 (R : Type) a b (k : Value → Option R) : evFn (cx Tryz.prog []) 60 244 [.complex .f64 a b] k = noughtK R a b fun t => k (.bool t) := by kernel_rfl
theorem z_echeck (re : KCB) (wi : KFFB) (no : KCB) (wh : KFB) (R : Type) kind a1 a2 s1 s2 p (k : Value → Option R) :
  evFn (cx Tryz.prog [(243, sCB re), (80, sFFB wi), (244, sCB no), (245, sFB wh)]) 60 199 [el kind a1 a2 s1 s2 p] k = checkB re wi no wh R kind a1 a2 s1 s2 p fun e => k (.int .i64 e) := by kernel_rfl
theorem z_whole2 (mul : KCCC) (R : Type) a b (k : Value → Option R) : evFn (cx Tryz.prog [(22, sCCC mul)]) 60 221 [.complex .f64 a b, .int .i64 2] k = mul R a b a b fun x y => k (.complex .f64 x y) := by kernel_rfl
theorem z_spS (re : KCB) (wi : KFFB) (no fin : KCB) (wh : KFB) (sub : KCCC) (R : Type) a1 a2 s1 s2 z1 z2 (k : Value → Option R) :
  evFn (cxe Tryz.prog [(199, sEI (checkB re wi no wh)), (243, sCB re), (244, sCB no), (93, sCB fin), (21, sCCC sub)]) 60 217 [el 1 a1 a2 s1 s2 0, .complex .f64 z1 z2] k =
    spS (checkB re wi no wh) re no fin sub R a1 a2 s1 s2 z1 z2 (vErr k) (zOk k) := by kernel_rfl
theorem z_spO (re : KCB) (wi : KFFB) (no fin : KCB) (wh : KFB) (sub div : KCCC) (scl : KCFC) (R : Type) a1 a2 s1 s2 z1 z2 (k : Value → Option R) :
  evFn (cxe Tryz.prog [(199, sEI (checkB re wi no wh)), (243, sCB re), (244, sCB no), (93, sCB fin), (21, sCCC sub), (179, sCCC div), (39, sCFC scl), (165, sPi)]) 60 217 [el 2 a1 a2 s1 s2 0, .complex .f64 z1 z2] k =
    spO (checkB re wi no wh) re no fin sub div scl R a1 a2 s1 s2 z1 z2 (vErr k) (zOk k) := by kernel_rfl
theorem z_spD (re : KCB) (wi : KFFB) (no fin : KCB) (sub div mul : KCCC) (scl : KCFC) (R : Type) a1 a2 s1 s2 z1 z2 (k : Value → Option R) :
  evFn (cxe Tryz.prog [(199, sEI (checkB re wi no wh1)), (243, sCB re), (244, sCB no), (245, sWh1), (93, sCB fin), (21, sCCC sub), (179, sCCC div), (39, sCFC scl), (221, sW2 mul)]) 60 217 [el 3 a1 a2 s1 s2 4607182418800017408, .complex .f64 z1 z2] k =
    spD (checkB re wi no wh1) re no fin sub div mul scl R a1 a2 s1 s2 z1 z2 (vErr k) (zOk k) := by kernel_rfl
theorem z_steps (R : Type) y (k : Value → Option R) : evFn (cx Tryz.prog []) 60 258 [.float .f64 y] k = stepsK R y fun s c => k (.tuple ⟨[.float .f64 s, .float .f64 c]⟩) := by kernel_rfl
end Go.Vm
namespace Go.Vm
open Go.Proofs
set_option linter.unusedVariables false
set_option maxRecDepth 1000000
theorem run_ext {P : Program} {f : FuncId} {fn : Func} {ext : Array Value → Sem Value} (h1 : P.funcs[f]? = some fn) (h2 : (fn.name == "runtime.NumGoroutine") = false) (h3 : fn.body.isNone = true)
    (h4 : Extern.find fn = some ext) (h5 : (Extern.findNext fn).isNone = true) {args : Array Value} {v : Value} (h6 : ext args = pure v) (w : World) : (callFunc f args).run P w = .ok (.value v) w := by
  have h5' : Extern.findNext fn = none := by simpa using h5
  have h2' : fn.name ≠ "runtime.NumGoroutine" := by simpa using h2
  have h3' : fn.body = none := by simpa using h3
  unfold callFunc
  simp [Sem.run_bind, h1, h2', h3', h4, h5', h6]
theorem e144 : ExtOk Tryz.prog 144 xFrom := by
  intro R args k r hr
  unfold xFrom at hr; split at hr
  · rename_i n
    rw [forceN_eq] at hr
    exact ⟨rfl, _, hr, rfl, fun w => run_ext Tryz.func144 (by kernel_rfl) (by kernel_rfl) (show Extern.find Tryz.f144 = some Extern.MathFloatBits.float64frombits by kernel_rfl) (by kernel_rfl) rfl w⟩
  · cases hr
theorem e145 : ExtOk Tryz.prog 145 xBits := by
  intro R args k r hr
  unfold xBits at hr; split at hr
  · rename_i b
    rw [fiReal_fair] at hr
    exact ⟨rfl, _, hr, rfl, fun w => run_ext Tryz.func145 (by kernel_rfl) (by kernel_rfl) (show Extern.find Tryz.f145 = some Extern.MathFloatBits.float64bits by kernel_rfl) (by kernel_rfl) rfl w⟩
  · cases hr
theorem whole_run {name : String} {way : Ieee.Toward} {x : Nat} {d : Ieee.Datum} (h : Ieee.double.read x = d) (hd : ∀ s t, d ≠ .nan s t) :
    Extern.MathFloor.toIntegral name way #[.float .f64 x] = pure (.float .f64 (Ieee.double.write (d.integral way))) := by
  show (match Ieee.double.read x with | .nan s t => _ | d => pure (Value.float .f64 (Ieee.double.write (d.integral way)))) = _
  rw [h]
  cases d with
  | number s m e => rfl
  | infinity s => rfl
  | nan s t => exact absurd rfl (hd s t)
theorem e279 : ExtOk Tryz.prog 279 (xWhole .even) := by
  intro R args k r hr
  unfold xWhole at hr; split at hr
  · rename_i x
    split at hr
    · cases hr
    · rename_i d hd
      rw [forceN_eq] at hr
      exact ⟨rfl, _, hr, rfl, fun w => run_ext Tryz.func279 (by kernel_rfl) (by kernel_rfl) (show Extern.find Tryz.f279 = some (Extern.MathFloor.toIntegral "math.RoundToEven" .even) by kernel_rfl) (by kernel_rfl) (whole_run rfl hd) w⟩
  · cases hr
theorem e280 : ExtOk Tryz.prog 280 (xWhole .zero) := by
  intro R args k r hr
  unfold xWhole at hr; split at hr
  · rename_i x
    split at hr
    · cases hr
    · rename_i d hd
      rw [forceN_eq] at hr
      exact ⟨rfl, _, hr, rfl, fun w => run_ext Tryz.func280 (by kernel_rfl) (by kernel_rfl) (show Extern.find Tryz.f280 = some (Extern.MathFloor.toIntegral "math.archTrunc" .zero) by kernel_rfl) (by kernel_rfl) (whole_run rfl hd) w⟩
  · cases hr

inductive ExtsOk (P : Program) : List (Nat × Sum) → Prop
  | nil : ExtsOk P []
  | cons {f : Nat} {g : Sum} {r : List (Nat × Sum)} (h : ExtOk P f g) (hr : ExtsOk P r) : ExtsOk P ((f, g) :: r)
theorem exts_ok {P : Program} : ∀ {l : List (Nat × Sum)}, ExtsOk P l → ∀ f g, tab l f = some g → ExtOk P f g
  | _, .nil, f, g, h => by simp [tab] at h
  | _, .cons (f := n) h hr, f, g, h' => by
    unfold tab at h'
    cases hb : Nat.beq n f with
    | true =>
      rw [hb] at h'
      cases h'
      rw [Nat.eq_of_beq_eq_true hb] at h
      exact h
    | false => rw [hb] at h'; exact exts_ok hr f g h'
theorem extL_ok : ExtsOk Tryz.prog extL := .cons e144 (.cons e145 (.cons e279 (.cons e280 .nil)))
end Go.Vm
namespace Go.Vm
open Go.Proofs
set_option linter.unusedVariables false
set_option maxRecDepth 1000000

/-! ### Hot functions: what stands in their place where closed sentences are computed -/
theorem h165 : Has Tryz.prog 165 := ⟨Tryz.f165, _, Tryz.func165, by kernel_rfl, rfl⟩
theorem h265 : Has Tryz.prog 265 := ⟨Tryz.f265, _, Tryz.func265, by kernel_rfl, rfl⟩
theorem h273 : Has Tryz.prog 273 := ⟨Tryz.f273, _, Tryz.func273, by kernel_rfl, rfl⟩
theorem h238 : Has Tryz.prog 238 := ⟨Tryz.f238, _, Tryz.func238, by kernel_rfl, rfl⟩
theorem h249 : Has Tryz.prog 249 := ⟨Tryz.f249, _, Tryz.func249, by kernel_rfl, rfl⟩
theorem h266 : Has Tryz.prog 266 := ⟨Tryz.f266, _, Tryz.func266, by kernel_rfl, rfl⟩
theorem h267 : Has Tryz.prog 267 := ⟨Tryz.f267, _, Tryz.func267, by kernel_rfl, rfl⟩
theorem h233 : Has Tryz.prog 233 := ⟨Tryz.f233, _, Tryz.func233, by kernel_rfl, rfl⟩
theorem h189 : Has Tryz.prog 189 := ⟨Tryz.f189, _, Tryz.func189, by kernel_rfl, rfl⟩

theorem k165 : SumOk Tryz.prog 165 sPi := sumOk_of zm_ok .nil (n := 60) fun R args k r hr => by
  unfold sPi at hr; split at hr
  · exact ⟨rfl, by rw [z_pi]; exact hr⟩
  · cases hr
theorem z_Inf2 (R : Type) (k : Value → Option R) : evFn (cx Tryz.prog []) 40 113 [.int .i64 (-1)] k = k (.float .f64 18442240474082181120) := by kernel_rfl
theorem k113'' : SumOk Tryz.prog 113 sInfW2 := sumOk_of zm_ok .nil (n := 40) fun R args k r hr => by
  unfold sInfW2 at hr; split at hr
  · rename_i s
    cases h1 : (s == 1) with
    | true =>
      rw [h1] at hr
      have : s = 1 := by simpa using h1
      subst this
      exact ⟨rfl, by rw [z_Inf]; exact hr⟩
    | false =>
      cases h2 : (s == -1) with
      | true =>
        rw [h1, h2] at hr
        have : s = -1 := by simpa using h2
        subst this
        exact ⟨rfl, by rw [z_Inf2]; exact hr⟩
      | false => rw [h1, h2] at hr; cases hr
  · cases hr
theorem k265 : SumOk Tryz.prog 265 (sFF coreK) := ok_sFF zm_ok (.cons k165 h165 .nil) z_core
theorem k273 : SumOk Tryz.prog 273 (sFF oddK) := ok_sFF zm_ok .nil z_odd
theorem k238 : SumOk Tryz.prog 238 (sFF logK) := ok_sFF zm_ok (.cons k112' h112 (.cons k55 h55 (.cons k113'' h113 (.cons k200 h200 (.cons k273 h273 .nil))))) (z_log fiReal _ _ _ _ _)
theorem k249 : SumOk Tryz.prog 249 (sFB signK) := ok_sFB zm_ok .nil (z_sign fiReal)
theorem k266 : SumOk Tryz.prog 266 (sFB minusK) := ok_sFB zm_ok (.cons k249 h249 .nil) (z_minus _)
theorem k267 : SumOk Tryz.prog 267 (sFFF signedK) := ok_sFFF zm_ok (.cons k266 h266 (.cons k53 h53 .nil)) (z_signed _ _)
theorem k233 : SumOk Tryz.prog 233 (sFFF angleK) :=
  ok_sFFF zm_ok (.cons k53 h53 (.cons k112' h112 (.cons k165 h165 (.cons k265 h265 (.cons k266 h266 (.cons k267 h267 (.cons k55 h55 .nil))))))) (z_angle _ _ _ _ _ _ _)
theorem k189 : SumOk Tryz.prog 189 (sCC powLogK) := ok_sCC zm_ok (.cons k38 h38 (.cons k238 h238 (.cons k233 h233 .nil))) (z_powLog _ _ _)

theorem m_speed_261 (v : Value) : calm Tryz.prog (method (Tryz.prog.types.size + Made.depth) 261 v "eddy/element.speed") = some (301, v) := by kernel_rfl
theorem m_speed_263 (v : Value) : calm Tryz.prog (method (Tryz.prog.types.size + Made.depth) 263 v "eddy/element.speed") = some (304, v) := by kernel_rfl
theorem m_speed_265 (v : Value) : calm Tryz.prog (method (Tryz.prog.types.size + Made.depth) 265 v "eddy/element.speed") = some (308, v) := by kernel_rfl
theorem m_speed_267 (v : Value) : calm Tryz.prog (method (Tryz.prog.types.size + Made.depth) 267 v "eddy/element.speed") = some (311, v) := by kernel_rfl
theorem m_speed_268 (v : Value) : calm Tryz.prog (method (Tryz.prog.types.size + Made.depth) 268 v "eddy/element.speed") = some (314, v) := by kernel_rfl
theorem m_potential_261 (v : Value) : calm Tryz.prog (method (Tryz.prog.types.size + Made.depth) 261 v "eddy/element.potential") = some (299, v) := by kernel_rfl
theorem m_potential_263 (v : Value) : calm Tryz.prog (method (Tryz.prog.types.size + Made.depth) 263 v "eddy/element.potential") = some (302, v) := by kernel_rfl
theorem m_potential_265 (v : Value) : calm Tryz.prog (method (Tryz.prog.types.size + Made.depth) 265 v "eddy/element.potential") = some (306, v) := by kernel_rfl
theorem m_potential_267 (v : Value) : calm Tryz.prog (method (Tryz.prog.types.size + Made.depth) 267 v "eddy/element.potential") = some (309, v) := by kernel_rfl
theorem m_potential_268 (v : Value) : calm Tryz.prog (method (Tryz.prog.types.size + Made.depth) 268 v "eddy/element.potential") = some (312, v) := by kernel_rfl
theorem m_slope_261 (v : Value) : calm Tryz.prog (method (Tryz.prog.types.size + Made.depth) 261 v "eddy/element.slope") = some (300, v) := by kernel_rfl
theorem m_slope_263 (v : Value) : calm Tryz.prog (method (Tryz.prog.types.size + Made.depth) 263 v "eddy/element.slope") = some (303, v) := by kernel_rfl
theorem m_slope_265 (v : Value) : calm Tryz.prog (method (Tryz.prog.types.size + Made.depth) 265 v "eddy/element.slope") = some (307, v) := by kernel_rfl
theorem m_slope_267 (v : Value) : calm Tryz.prog (method (Tryz.prog.types.size + Made.depth) 267 v "eddy/element.slope") = some (310, v) := by kernel_rfl
theorem m_slope_268 (v : Value) : calm Tryz.prog (method (Tryz.prog.types.size + Made.depth) 268 v "eddy/element.slope") = some (313, v) := by kernel_rfl
theorem pick5 {t f a1 a2 a3 a4 a5 b1 b2 b3 b4 b5 : Nat} (h : (bif Nat.beq t a1 then some b1 else bif Nat.beq t a2 then some b2 else bif Nat.beq t a3 then some b3 else bif Nat.beq t a4 then some b4 else bif Nat.beq t a5 then some b5 else none) = some f) :
    (t = a1 ∧ f = b1) ∨ (t = a2 ∧ f = b2) ∨ (t = a3 ∧ f = b3) ∨ (t = a4 ∧ f = b4) ∨ (t = a5 ∧ f = b5) := by
  cases h1 : Nat.beq t a1 with
  | true => rw [h1] at h; exact .inl ⟨Nat.eq_of_beq_eq_true h1, (Option.some.inj h).symm⟩
  | false =>
    rw [h1] at h; refine .inr ?_
    cases h1 : Nat.beq t a2 with
    | true => rw [h1] at h; exact .inl ⟨Nat.eq_of_beq_eq_true h1, (Option.some.inj h).symm⟩
    | false =>
      rw [h1] at h; refine .inr ?_
      cases h1 : Nat.beq t a3 with
      | true => rw [h1] at h; exact .inl ⟨Nat.eq_of_beq_eq_true h1, (Option.some.inj h).symm⟩
      | false =>
        rw [h1] at h; refine .inr ?_
        cases h1 : Nat.beq t a4 with
        | true => rw [h1] at h; exact .inl ⟨Nat.eq_of_beq_eq_true h1, (Option.some.inj h).symm⟩
        | false =>
          rw [h1] at h; refine .inr ?_
          cases h1 : Nat.beq t a5 with
          | true => rw [h1] at h; exact ⟨Nat.eq_of_beq_eq_true h1, (Option.some.inj h).symm⟩
          | false => rw [h1] at h; cases h
theorem meth_ok : ∀ t s f, methT t s = some f → ∀ v w, (method (Tryz.prog.types.size + Made.depth) t v s).run Tryz.prog w = .ok (f, v) w := by
  intro t s f h v w
  unfold methT at h
  cases h_speed : (s == "eddy/element.speed") with
  | true =>
    rw [h_speed] at h
    have e : s = "eddy/element.speed" := by simpa using h_speed
    subst e
    rcases pick5 h with ⟨rfl, rfl⟩ | ⟨rfl, rfl⟩ | ⟨rfl, rfl⟩ | ⟨rfl, rfl⟩ | ⟨rfl, rfl⟩
    · exact calm_run (m_speed_261 v) w
    · exact calm_run (m_speed_263 v) w
    · exact calm_run (m_speed_265 v) w
    · exact calm_run (m_speed_267 v) w
    · exact calm_run (m_speed_268 v) w
  | false =>
    rw [h_speed] at h
    simp only [cond_false] at h
    cases h_potential : (s == "eddy/element.potential") with
    | true =>
      rw [h_potential] at h
      have e : s = "eddy/element.potential" := by simpa using h_potential
      subst e
      rcases pick5 h with ⟨rfl, rfl⟩ | ⟨rfl, rfl⟩ | ⟨rfl, rfl⟩ | ⟨rfl, rfl⟩ | ⟨rfl, rfl⟩
      · exact calm_run (m_potential_261 v) w
      · exact calm_run (m_potential_263 v) w
      · exact calm_run (m_potential_265 v) w
      · exact calm_run (m_potential_267 v) w
      · exact calm_run (m_potential_268 v) w
    | false =>
      rw [h_potential] at h
      simp only [cond_false] at h
      cases h_slope : (s == "eddy/element.slope") with
      | true =>
        rw [h_slope] at h
        have e : s = "eddy/element.slope" := by simpa using h_slope
        subst e
        rcases pick5 h with ⟨rfl, rfl⟩ | ⟨rfl, rfl⟩ | ⟨rfl, rfl⟩ | ⟨rfl, rfl⟩ | ⟨rfl, rfl⟩
        · exact calm_run (m_slope_261 v) w
        · exact calm_run (m_slope_263 v) w
        · exact calm_run (m_slope_265 v) w
        · exact calm_run (m_slope_267 v) w
        · exact calm_run (m_slope_268 v) w
      | false =>
        rw [h_slope] at h
        simp only [cond_false] at h
        cases h

theorem nanW_abs {b : Nat} (h : nanW b = true) : nanW (absW b) = true := by
  unfold nanW Ieee.Format.read at h ⊢
  have h1 : Ieee.double.signWeight = 2 ^ 63 := by decide
  have hm : absW b % 2 ^ 63 = b % 2 ^ 63 := by rw [absW_eq]; omega
  simp only [h1, hm] at h ⊢
  split
  · rename_i h2
    rw [if_pos h2] at h; cases h
  · rename_i h2
    rw [if_neg h2] at h
    split
    · rename_i h3
      rw [if_pos h3] at h; cases h
    · rename_i h3
      rw [if_neg h3] at h
      split
      · rename_i h4
        rw [if_pos h4] at h; cases h
      · rfl
theorem nan53 : ∀ b, nanW b = true → ∀ w, Calls Tryz.prog 53 ⟨[.float .f64 b]⟩ w fun e w' => (∃ c, nanW c = true ∧ e = .returned (.float .f64 c)) ∧ RowKit.Below w.heap.size w w' := by
  intro b hb w
  obtain ⟨_, v, h1, _, h2⟩ := k53 Value [.float .f64 b] some (.float .f64 (absW b)) rfl
  cases h1
  exact (h2 w).mono fun e w' ⟨he, hg⟩ => ⟨⟨_, nanW_abs hb, he⟩, hg⟩

theorem cxm_ok {l : List (Nat × Sum)} (h : AllOk Tryz.prog l) : (cxm Tryz.prog l).Ok where
  fair := fiReal_fair
  sums := fun f g hg => tab_ok h f g hg
  exts := fun f g hg => exts_ok extL_ok f g hg
  meths := meth_ok
  nan1 := fun f hf => by
    have : f = 53 := Nat.eq_of_beq_eq_true hf
    subst this
    exact ⟨h53, nan53⟩
  hs := fun f args H v h => by cases h

theorem h243 : Has Tryz.prog 243 := ⟨Tryz.f243, _, Tryz.func243, by kernel_rfl, rfl⟩
theorem h244 : Has Tryz.prog 244 := ⟨Tryz.f244, _, Tryz.func244, by kernel_rfl, rfl⟩
theorem h245 : Has Tryz.prog 245 := ⟨Tryz.f245, _, Tryz.func245, by kernel_rfl, rfl⟩
theorem h199 : Has Tryz.prog 199 := ⟨Tryz.f199, _, Tryz.func199, by kernel_rfl, rfl⟩
theorem h217 : Has Tryz.prog 217 := ⟨Tryz.f217, _, Tryz.func217, by kernel_rfl, rfl⟩
theorem h221 : Has Tryz.prog 221 := ⟨Tryz.f221, _, Tryz.func221, by kernel_rfl, rfl⟩
theorem h258 : Has Tryz.prog 258 := ⟨Tryz.f258, _, Tryz.func258, by kernel_rfl, rfl⟩
theorem k243 : SumOk Tryz.prog 243 (sCB placeK) := ok_sCB zm_ok (.cons k135 h135 .nil) (z_reals _)
theorem k244 : SumOk Tryz.prog 244 (sCB noughtK) := ok_sCB zm_ok .nil z_nought2
theorem k245 : SumOk Tryz.prog 245 sWh1 := sumOk_of zm_ok .nil (n := 60) fun R args k r hr => by
  unfold sWh1 at hr; split at hr
  · rename_i p
    cases hp : Nat.beq p 4607182418800017408 with
    | false => rw [hp] at hr; cases hr
    | true =>
      rw [hp] at hr
      have := Nat.eq_of_beq_eq_true hp
      subst this
      exact ⟨rfl, by rw [z_wh1]; exact hr⟩
  · cases hr
theorem k245' : SumOk Tryz.prog 245 (sFB wh1) := k245.weak fun R args k r hr => by
  refine ⟨k, ?_, fun v hv => hv⟩
  unfold sFB at hr; split at hr
  · rename_i p
    unfold wh1 at hr
    cases hp : Nat.beq p 4607182418800017408 with
    | false => rw [hp] at hr; cases hr
    | true =>
      rw [hp] at hr
      show (bif Nat.beq p 4607182418800017408 then k (.bool true) else none) = some r
      rw [hp]
      exact hr
  · cases hr
theorem k199 : SumOk Tryz.prog 199 (sEI checkK) := sumOk_of zm_ok (.cons k243 h243 (.cons k80 h80 (.cons k244 h244 (.cons k245' h245 .nil)))) (n := 60) fun R args k r hr => by
  unfold sEI at hr; split at hr
  · rename_i kind a1 a2 s1 s2 p
    exact ⟨rfl, (z_echeck placeK withinK noughtK wh1 R kind a1 a2 s1 s2 p k).trans hr⟩
  · cases hr
theorem k221 : SumOk Tryz.prog 221 (sW2 mulK) := sumOk_of zm_ok (.cons k22 h22 .nil) (n := 60) fun R args k r hr => by
  unfold sW2 at hr; split at hr
  · rename_i a b n
    cases hn : (n == 2) with
    | false => rw [hn] at hr; cases hr
    | true =>
      rw [hn] at hr
      have : n = 2 := by simpa using hn
      subst this
      exact ⟨rfl, (z_whole2 mulK R a b k).trans hr⟩
  · cases hr
theorem k258 : SumOk Tryz.prog 258 (sFF2 stepsK) := sumOk_of zm_ok .nil (n := 60) fun R args k r hr => by
  unfold sFF2 at hr; split at hr
  · rename_i y
    exact ⟨rfl, (z_steps R y k).trans hr⟩
  · cases hr

theorem cxe_ok' {l : List (Nat × Sum)} (h : AllOk Tryz.prog l) : (cxe Tryz.prog l).Ok where
  fair := fiReal_fair
  sums := fun f g hg => tab_ok h f g hg
  exts := fun f g hg => by cases hg
  meths := meth_ok
  nan1 := fun f hf => by cases hf
  hs := fun f args H v h => by cases h
theorem k217 : SumOk Tryz.prog 217 (sSp spSK spOK spDK) := by
  intro R args k r hr
  unfold sSp at hr
  split at hr
  · rename_i kind a1 a2 s1 s2 p z1 z2
    cases h1 : (kind == 1 && Nat.beq p 0) with
    | true =>
      rw [h1] at hr
      simp only [Bool.and_eq_true, beq_iff_eq, Nat.beq_eq] at h1
      obtain ⟨rfl, rfl⟩ := h1
      exact ⟨rfl, evFn_sound (cxe_ok' (.cons k199 h199 (.cons k243 h243 (.cons k244 h244 (.cons k93 h93 (.cons k21 h21 .nil)))))) zm_ok ((z_spS placeK withinK noughtK FiniteK wh1 subK R a1 a2 s1 s2 z1 z2 k).trans hr) rfl⟩
    | false =>
      rw [h1] at hr
      simp only [cond_false] at hr
      cases h2 : (kind == 2 && Nat.beq p 0) with
      | true =>
        rw [h2] at hr
        simp only [Bool.and_eq_true, beq_iff_eq, Nat.beq_eq] at h2
        obtain ⟨rfl, rfl⟩ := h2
        exact ⟨rfl, evFn_sound (cxe_ok' (.cons k199 h199 (.cons k243 h243 (.cons k244 h244 (.cons k93 h93 (.cons k21 h21 (.cons k179 h179 (.cons k39 h39 (.cons k165 h165 .nil))))))))) zm_ok
          ((z_spO placeK withinK noughtK FiniteK wh1 subK divK sclK R a1 a2 s1 s2 z1 z2 k).trans hr) rfl⟩
      | false =>
        rw [h2] at hr
        simp only [cond_false] at hr
        cases h3 : (kind == 3 && Nat.beq p 4607182418800017408) with
        | true =>
          rw [h3] at hr
          simp only [Bool.and_eq_true, beq_iff_eq, Nat.beq_eq] at h3
          obtain ⟨rfl, rfl⟩ := h3
          exact ⟨rfl, evFn_sound (cxe_ok' (.cons k199 h199 (.cons k243 h243 (.cons k244 h244 (.cons k245 h245 (.cons k93 h93 (.cons k21 h21 (.cons k179 h179 (.cons k39 h39 (.cons k221 h221 .nil)))))))))) zm_ok
            ((z_spD placeK withinK noughtK FiniteK subK divK mulK sclK R a1 a2 s1 s2 z1 z2 k).trans hr) rfl⟩
        | false => rw [h3] at hr; cases hr
  · cases hr

theorem hot_ok : AllOk Tryz.prog hot :=
  .cons k199 h199 (.cons k217 h217 (.cons k258 h258 (.cons k243 h243 (.cons k244 h244 (.cons k245 h245 (.cons k221 h221 (.cons k53 h53 (.cons k22 h22 (.cons k84 h84 (.cons k21 h21 (.cons k80 h80 (.cons k135 h135 (.cons k141 h141 (.cons k93 h93 (.cons k179 h179 (.cons k81 h81 (.cons k86 h86
  (.cons k79 h79 (.cons k23 h23 (.cons k87 h87 (.cons k112' h112 (.cons k113'' h113 (.cons k114 h114 (.cons k275 h275 (.cons k260 h260 (.cons k229 h229 (.cons k200 h200 (.cons k77 h77
  (.cons k247 h247 (.cons k201 h201 (.cons k117 h117 (.cons k115 h115 (.cons k116 h116 (.cons k119 h119 (.cons k118 h118 (.cons k38 h38 (.cons k39 h39
  (.cons k165 h165 (.cons k265 h265 (.cons k273 h273 (.cons k238 h238 (.cons k249 h249 (.cons k266 h266 (.cons k267 h267 (.cons k233 h233 (.cons k189 h189 .nil))))))))))))))))))))))))))))))))))))))))))))))

theorem sumOk_m {l : List (Nat × Sum)} (h : AllOk Tryz.prog l) {n : Nat} {f : FuncId} {g : Sum}
    (hg : ∀ (R : Type) (args : List Value) (k : Value → Option R) (r : R), g R args k = some r → inns 0 args = true ∧ evFn (cxm Tryz.prog l) n f args k = some r) : SumOk Tryz.prog f g := by
  intro R args k r h1
  obtain ⟨h2, h3⟩ := hg R args k r h1
  exact ⟨h2, evFn_sound (cxm_ok h) zm_ok h3 h2⟩
end Go.Vm
