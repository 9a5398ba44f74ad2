/- The code of logarithms and angles computes just what is told of them; no conditions. What stands in the place of the hot functions is what they do; no conditions. -/
import Derived.Test.YtnbpfafngidimaaGreatVmKF
import Derived.Test.YtnbpfafngidimaaGreatProg
import Derived.Test.YtnbpfafngidimaaGreatVmZ11
namespace Go.Vm
open Go.Proofs
set_option linter.unusedVariables false
set_option maxRecDepth 1000000
theorem z_pi (R : Type) (k : Value → Option R) : evFn (cx Tryz.prog []) 60 165 [] k = k (.tuple ⟨[.float .f64 4614256656552045848, .float .f64 4368955796522032135]⟩) := by kernel_rfl
theorem z_core (R : Type) t (k : Value → Option R) : evFn (cx Tryz.prog [(165, sPi)]) 60 265 [.float .f64 t] k = coreK R t fun x => k (.float .f64 x) := by kernel_rfl
theorem z_odd (R : Type) t (k : Value → Option R) : evFn (cx Tryz.prog []) 60 273 [.float .f64 t] k = oddK R t fun x => k (.float .f64 x) := by kernel_rfl
theorem z_log (fi : Fi) (g0 gp gm : KFB) (pa : KFFI) (odd : KFF) (R : Type) t (k : Value → Option R) : evFn (cxf fi Tryz.prog [(112, sInf3 g0 gp gm), (55, sNever), (113, sInfW2), (200, sFFI pa), (273, sFF odd)] []) 60 238 [.float .f64 t] k =
  logB fi gp pa odd R t fun x => k (.float .f64 x) := by kernel_rfl
theorem z_sign (fi : Fi) (R : Type) t (k : Value → Option R) : evFn (cxf fi Tryz.prog [] []) 60 249 [.float .f64 t] k = signB fi R t fun t => k (.bool t) := by kernel_rfl
theorem z_minus (sg : KFB) (R : Type) t (k : Value → Option R) : evFn (cx Tryz.prog [(249, sFB sg)]) 60 266 [.float .f64 t] k = minusB sg R t fun t => k (.bool t) := by kernel_rfl
theorem z_signed (mi : KFB) (ab : KFF) (R : Type) a b (k : Value → Option R) : evFn (cx Tryz.prog [(266, sFB mi), (53, sFF ab)]) 60 267 [.float .f64 a, .float .f64 b] k = signedB mi ab R a b fun x => k (.float .f64 x) := by kernel_rfl
theorem z_angle (ab : KFF) (g0 gp gm : KFB) (core : KFF) (mi : KFB) (sd : KFFF) (R : Type) a b (k : Value → Option R) :
  evFn (cx Tryz.prog [(53, sFF ab), (112, sInf3 g0 gp gm), (165, sPi), (265, sFF core), (266, sFB mi), (267, sFFF sd), (55, sNever)]) 60 233 [.float .f64 a, .float .f64 b] k = angleB ab gp core mi sd R a b fun x => k (.float .f64 x) := by kernel_rfl
theorem z_powLog (len : KCF) (lg : KFF) (an : KFFF) (R : Type) a b (k : Value → Option R) : evFn (cx Tryz.prog [(38, sCF len), (238, sFF lg), (233, sFFF an)]) 60 189 [.complex .f64 a b] k = powLogB len lg an R a b fun x y => k (.complex .f64 x y) := by kernel_rfl
end Go.Vm
namespace Go.Vm
open Go.Proofs
set_option linter.unusedVariables false
set_option maxRecDepth 1000000

/-! ### Hot functions: what stands in their place where closed sentences are computed -/
theorem h165 : Has Tryz.prog 165 := ⟨Tryz.f165, _, Tryz.func165, by kernel_rfl, rfl⟩
theorem h265 : Has Tryz.prog 265 := ⟨Tryz.f265, _, Tryz.func265, by kernel_rfl, rfl⟩
theorem h273 : Has Tryz.prog 273 := ⟨Tryz.f273, _, Tryz.func273, by kernel_rfl, rfl⟩
theorem h238 : Has Tryz.prog 238 := ⟨Tryz.f238, _, Tryz.func238, by kernel_rfl, rfl⟩
theorem h249 : Has Tryz.prog 249 := ⟨Tryz.f249, _, Tryz.func249, by kernel_rfl, rfl⟩
theorem h266 : Has Tryz.prog 266 := ⟨Tryz.f266, _, Tryz.func266, by kernel_rfl, rfl⟩
theorem h267 : Has Tryz.prog 267 := ⟨Tryz.f267, _, Tryz.func267, by kernel_rfl, rfl⟩
theorem h233 : Has Tryz.prog 233 := ⟨Tryz.f233, _, Tryz.func233, by kernel_rfl, rfl⟩
theorem h189 : Has Tryz.prog 189 := ⟨Tryz.f189, _, Tryz.func189, by kernel_rfl, rfl⟩

theorem k165 : SumOk Tryz.prog 165 sPi := sumOk_of zm_ok .nil (n := 60) fun R args k r hr => by
  unfold sPi at hr; split at hr
  · exact ⟨rfl, by rw [z_pi]; exact hr⟩
  · cases hr
theorem z_Inf2 (R : Type) (k : Value → Option R) : evFn (cx Tryz.prog []) 40 113 [.int .i64 (-1)] k = k (.float .f64 18442240474082181120) := by kernel_rfl
theorem k113'' : SumOk Tryz.prog 113 sInfW2 := sumOk_of zm_ok .nil (n := 40) fun R args k r hr => by
  unfold sInfW2 at hr; split at hr
  · rename_i s
    cases h1 : (s == 1) with
    | true =>
      rw [h1] at hr
      have : s = 1 := by simpa using h1
      subst this
      exact ⟨rfl, by rw [z_Inf]; exact hr⟩
    | false =>
      cases h2 : (s == -1) with
      | true =>
        rw [h1, h2] at hr
        have : s = -1 := by simpa using h2
        subst this
        exact ⟨rfl, by rw [z_Inf2]; exact hr⟩
      | false => rw [h1, h2] at hr; cases hr
  · cases hr
theorem k265 : SumOk Tryz.prog 265 (sFF coreK) := ok_sFF zm_ok (.cons k165 h165 .nil) z_core
theorem k273 : SumOk Tryz.prog 273 (sFF oddK) := ok_sFF zm_ok .nil z_odd
def logK : KFF := logB fiReal isInfPK frexpK oddK
theorem k238 : SumOk Tryz.prog 238 (sFF logK) := ok_sFF zm_ok (.cons k112' h112 (.cons k55 h55 (.cons k113'' h113 (.cons k200 h200 (.cons k273 h273 .nil))))) (z_log fiReal _ _ _ _ _)
def signK : KFB := signB fiReal
theorem k249 : SumOk Tryz.prog 249 (sFB signK) := ok_sFB zm_ok .nil (z_sign fiReal)
def minusK : KFB := minusB signK
theorem k266 : SumOk Tryz.prog 266 (sFB minusK) := ok_sFB zm_ok (.cons k249 h249 .nil) (z_minus _)
def signedK : KFFF := signedB minusK absK
theorem k267 : SumOk Tryz.prog 267 (sFFF signedK) := ok_sFFF zm_ok (.cons k266 h266 (.cons k53 h53 .nil)) (z_signed _ _)
def angleK : KFFF := angleB absK isInfPK coreK minusK signedK
theorem k233 : SumOk Tryz.prog 233 (sFFF angleK) :=
  ok_sFFF zm_ok (.cons k53 h53 (.cons k112' h112 (.cons k165 h165 (.cons k265 h265 (.cons k266 h266 (.cons k267 h267 (.cons k55 h55 .nil))))))) (z_angle _ _ _ _ _ _ _)
def powLogK : KCC := powLogB lengthK logK angleK
theorem k189 : SumOk Tryz.prog 189 (sCC powLogK) := ok_sCC zm_ok (.cons k38 h38 (.cons k238 h238 (.cons k233 h233 .nil))) (z_powLog _ _ _)

/-- the hot ones -/
def hot : List (Nat × Sum) := [(53, sFF absK), (22, sCCC mulK), (84, sCCC addK), (21, sCCC subK), (80, sFFB withinK), (135, sCFB WithinK), (141, sFB finiteK), (93, sCB FiniteK), (179, sCCC divK), (81, sCB noughtK), (86, sCC negK),
  (79, sCB placeK), (23, sCCB LikeK), (87, sFFB likeK), (112, sInf3 isInfK isInfPK isInfMK), (113, sInfW2), (114, sFB isNanK), (275, sFFI normK), (260, sFFI frexpK), (229, sFFI frexpK), (200, sFFI frexpK), (77, sFFF copyK),
  (247, sFIF ldexpK), (201, sFIF ldexpK), (117, sFIF scaleK), (115, sCF greatestK), (116, sCCI scaledK), (119, sCF squareK), (118, sFF sqrtK), (38, sCF lengthK), (39, sCFC sclK), (188, sCC rootK),
  (165, sPi), (265, sFF coreK), (273, sFF oddK), (238, sFF logK), (249, sFB signK), (266, sFB minusK), (267, sFFF signedK), (233, sFFF angleK), (189, sCC powLogK)]
theorem hot_ok : AllOk Tryz.prog hot :=
  .cons k53 h53 (.cons k22 h22 (.cons k84 h84 (.cons k21 h21 (.cons k80 h80 (.cons k135 h135 (.cons k141 h141 (.cons k93 h93 (.cons k179 h179 (.cons k81 h81 (.cons k86 h86
  (.cons k79 h79 (.cons k23 h23 (.cons k87 h87 (.cons k112' h112 (.cons k113'' h113 (.cons k114 h114 (.cons k275 h275 (.cons k260 h260 (.cons k229 h229 (.cons k200 h200 (.cons k77 h77
  (.cons k247 h247 (.cons k201 h201 (.cons k117 h117 (.cons k115 h115 (.cons k116 h116 (.cons k119 h119 (.cons k118 h118 (.cons k38 h38 (.cons k39 h39 (.cons k188 h188
  (.cons k165 h165 (.cons k265 h265 (.cons k273 h273 (.cons k238 h238 (.cons k249 h249 (.cons k266 h266 (.cons k267 h267 (.cons k233 h233 (.cons k189 h189 .nil))))))))))))))))))))))))))))))))))))))))

/-! ### Methods of elements -/
def methT (t : TypeId) (s : String) : Option FuncId :=
  bif s == "eddy/element.speed" then
    (bif Nat.beq t 261 then some 301 else bif Nat.beq t 263 then some 304 else bif Nat.beq t 265 then some 308 else bif Nat.beq t 267 then some 311 else bif Nat.beq t 268 then some 314 else none)
  else bif s == "eddy/element.potential" then
    (bif Nat.beq t 261 then some 299 else bif Nat.beq t 263 then some 302 else bif Nat.beq t 265 then some 306 else bif Nat.beq t 267 then some 309 else bif Nat.beq t 268 then some 312 else none)
  else bif s == "eddy/element.slope" then
    (bif Nat.beq t 261 then some 300 else bif Nat.beq t 263 then some 303 else bif Nat.beq t 265 then some 307 else bif Nat.beq t 267 then some 310 else bif Nat.beq t 268 then some 313 else none)
  else none
theorem m_speed_261 (v : Value) : calm Tryz.prog (method (Tryz.prog.types.size + Made.depth) 261 v "eddy/element.speed") = some (301, v) := by kernel_rfl
theorem m_speed_263 (v : Value) : calm Tryz.prog (method (Tryz.prog.types.size + Made.depth) 263 v "eddy/element.speed") = some (304, v) := by kernel_rfl
theorem m_speed_265 (v : Value) : calm Tryz.prog (method (Tryz.prog.types.size + Made.depth) 265 v "eddy/element.speed") = some (308, v) := by kernel_rfl
theorem m_speed_267 (v : Value) : calm Tryz.prog (method (Tryz.prog.types.size + Made.depth) 267 v "eddy/element.speed") = some (311, v) := by kernel_rfl
theorem m_speed_268 (v : Value) : calm Tryz.prog (method (Tryz.prog.types.size + Made.depth) 268 v "eddy/element.speed") = some (314, v) := by kernel_rfl
theorem m_potential_261 (v : Value) : calm Tryz.prog (method (Tryz.prog.types.size + Made.depth) 261 v "eddy/element.potential") = some (299, v) := by kernel_rfl
theorem m_potential_263 (v : Value) : calm Tryz.prog (method (Tryz.prog.types.size + Made.depth) 263 v "eddy/element.potential") = some (302, v) := by kernel_rfl
theorem m_potential_265 (v : Value) : calm Tryz.prog (method (Tryz.prog.types.size + Made.depth) 265 v "eddy/element.potential") = some (306, v) := by kernel_rfl
theorem m_potential_267 (v : Value) : calm Tryz.prog (method (Tryz.prog.types.size + Made.depth) 267 v "eddy/element.potential") = some (309, v) := by kernel_rfl
theorem m_potential_268 (v : Value) : calm Tryz.prog (method (Tryz.prog.types.size + Made.depth) 268 v "eddy/element.potential") = some (312, v) := by kernel_rfl
theorem m_slope_261 (v : Value) : calm Tryz.prog (method (Tryz.prog.types.size + Made.depth) 261 v "eddy/element.slope") = some (300, v) := by kernel_rfl
theorem m_slope_263 (v : Value) : calm Tryz.prog (method (Tryz.prog.types.size + Made.depth) 263 v "eddy/element.slope") = some (303, v) := by kernel_rfl
theorem m_slope_265 (v : Value) : calm Tryz.prog (method (Tryz.prog.types.size + Made.depth) 265 v "eddy/element.slope") = some (307, v) := by kernel_rfl
theorem m_slope_267 (v : Value) : calm Tryz.prog (method (Tryz.prog.types.size + Made.depth) 267 v "eddy/element.slope") = some (310, v) := by kernel_rfl
theorem m_slope_268 (v : Value) : calm Tryz.prog (method (Tryz.prog.types.size + Made.depth) 268 v "eddy/element.slope") = some (313, v) := by kernel_rfl
theorem pick5 {t f a1 a2 a3 a4 a5 b1 b2 b3 b4 b5 : Nat} (h : (bif Nat.beq t a1 then some b1 else bif Nat.beq t a2 then some b2 else bif Nat.beq t a3 then some b3 else bif Nat.beq t a4 then some b4 else bif Nat.beq t a5 then some b5 else none) = some f) :
    (t = a1 ∧ f = b1) ∨ (t = a2 ∧ f = b2) ∨ (t = a3 ∧ f = b3) ∨ (t = a4 ∧ f = b4) ∨ (t = a5 ∧ f = b5) := by
  cases h1 : Nat.beq t a1 with
  | true => rw [h1] at h; exact .inl ⟨Nat.eq_of_beq_eq_true h1, (Option.some.inj h).symm⟩
  | false =>
    rw [h1] at h; refine .inr ?_
    cases h1 : Nat.beq t a2 with
    | true => rw [h1] at h; exact .inl ⟨Nat.eq_of_beq_eq_true h1, (Option.some.inj h).symm⟩
    | false =>
      rw [h1] at h; refine .inr ?_
      cases h1 : Nat.beq t a3 with
      | true => rw [h1] at h; exact .inl ⟨Nat.eq_of_beq_eq_true h1, (Option.some.inj h).symm⟩
      | false =>
        rw [h1] at h; refine .inr ?_
        cases h1 : Nat.beq t a4 with
        | true => rw [h1] at h; exact .inl ⟨Nat.eq_of_beq_eq_true h1, (Option.some.inj h).symm⟩
        | false =>
          rw [h1] at h; refine .inr ?_
          cases h1 : Nat.beq t a5 with
          | true => rw [h1] at h; exact ⟨Nat.eq_of_beq_eq_true h1, (Option.some.inj h).symm⟩
          | false => rw [h1] at h; cases h
theorem meth_ok : ∀ t s f, methT t s = some f → ∀ v w, (method (Tryz.prog.types.size + Made.depth) t v s).run Tryz.prog w = .ok (f, v) w := by
  intro t s f h v w
  unfold methT at h
  cases h_speed : (s == "eddy/element.speed") with
  | true =>
    rw [h_speed] at h
    have e : s = "eddy/element.speed" := by simpa using h_speed
    subst e
    rcases pick5 h with ⟨rfl, rfl⟩ | ⟨rfl, rfl⟩ | ⟨rfl, rfl⟩ | ⟨rfl, rfl⟩ | ⟨rfl, rfl⟩
    · exact calm_run (m_speed_261 v) w
    · exact calm_run (m_speed_263 v) w
    · exact calm_run (m_speed_265 v) w
    · exact calm_run (m_speed_267 v) w
    · exact calm_run (m_speed_268 v) w
  | false =>
    rw [h_speed] at h
    simp only [cond_false] at h
    cases h_potential : (s == "eddy/element.potential") with
    | true =>
      rw [h_potential] at h
      have e : s = "eddy/element.potential" := by simpa using h_potential
      subst e
      rcases pick5 h with ⟨rfl, rfl⟩ | ⟨rfl, rfl⟩ | ⟨rfl, rfl⟩ | ⟨rfl, rfl⟩ | ⟨rfl, rfl⟩
      · exact calm_run (m_potential_261 v) w
      · exact calm_run (m_potential_263 v) w
      · exact calm_run (m_potential_265 v) w
      · exact calm_run (m_potential_267 v) w
      · exact calm_run (m_potential_268 v) w
    | false =>
      rw [h_potential] at h
      simp only [cond_false] at h
      cases h_slope : (s == "eddy/element.slope") with
      | true =>
        rw [h_slope] at h
        have e : s = "eddy/element.slope" := by simpa using h_slope
        subst e
        rcases pick5 h with ⟨rfl, rfl⟩ | ⟨rfl, rfl⟩ | ⟨rfl, rfl⟩ | ⟨rfl, rfl⟩ | ⟨rfl, rfl⟩
        · exact calm_run (m_slope_261 v) w
        · exact calm_run (m_slope_263 v) w
        · exact calm_run (m_slope_265 v) w
        · exact calm_run (m_slope_267 v) w
        · exact calm_run (m_slope_268 v) w
      | false =>
        rw [h_slope] at h
        simp only [cond_false] at h
        cases h

theorem nanW_abs {b : Nat} (h : nanW b = true) : nanW (absW b) = true := by
  unfold nanW Ieee.Format.read at h ⊢
  have h1 : Ieee.double.signWeight = 2 ^ 63 := by decide
  have hm : absW b % 2 ^ 63 = b % 2 ^ 63 := by rw [absW_eq]; omega
  simp only [h1, hm] at h ⊢
  split
  · rename_i h2
    rw [if_pos h2] at h; cases h
  · rename_i h2
    rw [if_neg h2] at h
    split
    · rename_i h3
      rw [if_pos h3] at h; cases h
    · rename_i h3
      rw [if_neg h3] at h
      split
      · rename_i h4
        rw [if_pos h4] at h; cases h
      · rfl
theorem nan53 : ∀ b, nanW b = true → ∀ w, Calls Tryz.prog 53 ⟨[.float .f64 b]⟩ w fun e w' => (∃ c, nanW c = true ∧ e = .returned (.float .f64 c)) ∧ RowKit.Below w.heap.size w w' := by
  intro b hb w
  obtain ⟨_, v, h1, _, h2⟩ := k53 Value [.float .f64 b] some (.float .f64 (absW b)) rfl
  cases h1
  exact (h2 w).mono fun e w' ⟨he, hg⟩ => ⟨⟨_, nanW_abs hb, he⟩, hg⟩

def wildT (f : FuncId) : Bool := Nat.beq f 142
def nanT (f : FuncId) : Bool := Nat.beq f 53
def cxm (P : Program) (l : List (Nat × Sum)) : Cx := { P := P, sums := tab l, exts := fun _ => none, meths := methT, wild := wildT, fi := fiReal, nn := true, nan1 := nanT }
theorem cxm_ok {l : List (Nat × Sum)} (h : AllOk Tryz.prog l) : (cxm Tryz.prog l).Ok where
  fair := fiReal_fair
  sums := fun f g hg => tab_ok h f g hg
  exts := fun f g hg => by cases hg
  meths := meth_ok
  nan1 := fun f hf => by
    have : f = 53 := Nat.eq_of_beq_eq_true hf
    subst this
    exact ⟨h53, nan53⟩

theorem sumOk_m {l : List (Nat × Sum)} (h : AllOk Tryz.prog l) {n : Nat} {f : FuncId} {g : Sum}
    (hg : ∀ (R : Type) (args : List Value) (k : Value → Option R) (r : R), g R args k = some r → inns 0 args = true ∧ evFn (cxm Tryz.prog l) n f args k = some r) : SumOk Tryz.prog f g := by
  intro R args k r h1
  obtain ⟨h2, h3⟩ := hg R args k r h1
  exact ⟨h2, evFn_sound (cxm_ok h) zm_ok h3 h2⟩
end Go.Vm
