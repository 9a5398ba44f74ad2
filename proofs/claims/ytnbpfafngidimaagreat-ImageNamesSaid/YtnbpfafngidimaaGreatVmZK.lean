/- What stands in the place of the hot functions is what they do; no conditions. A part of the evaluator and of what is told of floats; no conditions. What ForceLift and its small functions compute, in Lean; no conditions. -/
import Derived.Test.YtnbpfafngidimaaGreatVmLS
import Derived.Test.YtnbpfafngidimaaGreatVmZ6
import Derived.Test.YtnbpfafngidimaaGreatVmP1
namespace Go.Vm
open Go.Proofs
set_option linter.unusedVariables false
set_option maxRecDepth 1000000

/-! ### Hot functions: what stands in their place where closed sentences are computed -/
theorem h165 : Has Tryz.prog 165 := ⟨Tryz.f165, _, Tryz.func165, by kernel_rfl, rfl⟩
theorem h265 : Has Tryz.prog 265 := ⟨Tryz.f265, _, Tryz.func265, by kernel_rfl, rfl⟩
theorem h273 : Has Tryz.prog 273 := ⟨Tryz.f273, _, Tryz.func273, by kernel_rfl, rfl⟩
theorem h238 : Has Tryz.prog 238 := ⟨Tryz.f238, _, Tryz.func238, by kernel_rfl, rfl⟩
theorem h249 : Has Tryz.prog 249 := ⟨Tryz.f249, _, Tryz.func249, by kernel_rfl, rfl⟩
theorem h266 : Has Tryz.prog 266 := ⟨Tryz.f266, _, Tryz.func266, by kernel_rfl, rfl⟩
theorem h267 : Has Tryz.prog 267 := ⟨Tryz.f267, _, Tryz.func267, by kernel_rfl, rfl⟩
theorem h233 : Has Tryz.prog 233 := ⟨Tryz.f233, _, Tryz.func233, by kernel_rfl, rfl⟩
theorem h189 : Has Tryz.prog 189 := ⟨Tryz.f189, _, Tryz.func189, by kernel_rfl, rfl⟩

theorem k165 : SumOk Tryz.prog 165 sPi := sumOk_of zm_ok .nil (n := 60) fun R args k r hr => by
  unfold sPi at hr; split at hr
  · exact ⟨rfl, by rw [z_pi]; exact hr⟩
  · cases hr
theorem z_Inf2 (R : Type) (k : Value → Option R) : evFn (cx Tryz.prog []) 40 113 [.int .i64 (-1)] k = k (.float .f64 18442240474082181120) := by kernel_rfl
theorem k113'' : SumOk Tryz.prog 113 sInfW2 := sumOk_of zm_ok .nil (n := 40) fun R args k r hr => by
  unfold sInfW2 at hr; split at hr
  · rename_i s
    cases h1 : (s == 1) with
    | true =>
      rw [h1] at hr
      have : s = 1 := by simpa using h1
      subst this
      exact ⟨rfl, by rw [z_Inf]; exact hr⟩
    | false =>
      cases h2 : (s == -1) with
      | true =>
        rw [h1, h2] at hr
        have : s = -1 := by simpa using h2
        subst this
        exact ⟨rfl, by rw [z_Inf2]; exact hr⟩
      | false => rw [h1, h2] at hr; cases hr
  · cases hr
theorem k265 : SumOk Tryz.prog 265 (sFF coreK) := ok_sFF zm_ok (.cons k165 h165 .nil) z_core
theorem k273 : SumOk Tryz.prog 273 (sFF oddK) := ok_sFF zm_ok .nil z_odd
theorem k238 : SumOk Tryz.prog 238 (sFF logK) := ok_sFF zm_ok (.cons k112' h112 (.cons k55 h55 (.cons k113'' h113 (.cons k200 h200 (.cons k273 h273 .nil))))) (z_log fiReal _ _ _ _ _)
theorem k249 : SumOk Tryz.prog 249 (sFB signK) := ok_sFB zm_ok .nil (z_sign fiReal)
theorem k266 : SumOk Tryz.prog 266 (sFB minusK) := ok_sFB zm_ok (.cons k249 h249 .nil) (z_minus _)
theorem k267 : SumOk Tryz.prog 267 (sFFF signedK) := ok_sFFF zm_ok (.cons k266 h266 (.cons k53 h53 .nil)) (z_signed _ _)
theorem k233 : SumOk Tryz.prog 233 (sFFF angleK) :=
  ok_sFFF zm_ok (.cons k53 h53 (.cons k112' h112 (.cons k165 h165 (.cons k265 h265 (.cons k266 h266 (.cons k267 h267 (.cons k55 h55 .nil))))))) (z_angle _ _ _ _ _ _ _)
theorem k189 : SumOk Tryz.prog 189 (sCC powLogK) := ok_sCC zm_ok (.cons k38 h38 (.cons k238 h238 (.cons k233 h233 .nil))) (z_powLog _ _ _)

theorem m_speed_261 (v : Value) : calm Tryz.prog (method (Tryz.prog.types.size + Made.depth) 261 v "eddy/element.speed") = some (301, v) := by kernel_rfl
theorem m_speed_263 (v : Value) : calm Tryz.prog (method (Tryz.prog.types.size + Made.depth) 263 v "eddy/element.speed") = some (304, v) := by kernel_rfl
theorem m_speed_265 (v : Value) : calm Tryz.prog (method (Tryz.prog.types.size + Made.depth) 265 v "eddy/element.speed") = some (308, v) := by kernel_rfl
theorem m_speed_267 (v : Value) : calm Tryz.prog (method (Tryz.prog.types.size + Made.depth) 267 v "eddy/element.speed") = some (311, v) := by kernel_rfl
theorem m_speed_268 (v : Value) : calm Tryz.prog (method (Tryz.prog.types.size + Made.depth) 268 v "eddy/element.speed") = some (314, v) := by kernel_rfl
theorem m_potential_261 (v : Value) : calm Tryz.prog (method (Tryz.prog.types.size + Made.depth) 261 v "eddy/element.potential") = some (299, v) := by kernel_rfl
theorem m_potential_263 (v : Value) : calm Tryz.prog (method (Tryz.prog.types.size + Made.depth) 263 v "eddy/element.potential") = some (302, v) := by kernel_rfl
theorem m_potential_265 (v : Value) : calm Tryz.prog (method (Tryz.prog.types.size + Made.depth) 265 v "eddy/element.potential") = some (306, v) := by kernel_rfl
theorem m_potential_267 (v : Value) : calm Tryz.prog (method (Tryz.prog.types.size + Made.depth) 267 v "eddy/element.potential") = some (309, v) := by kernel_rfl
theorem m_potential_268 (v : Value) : calm Tryz.prog (method (Tryz.prog.types.size + Made.depth) 268 v "eddy/element.potential") = some (312, v) := by kernel_rfl
theorem m_slope_261 (v : Value) : calm Tryz.prog (method (Tryz.prog.types.size + Made.depth) 261 v "eddy/element.slope") = some (300, v) := by kernel_rfl
theorem m_slope_263 (v : Value) : calm Tryz.prog (method (Tryz.prog.types.size + Made.depth) 263 v "eddy/element.slope") = some (303, v) := by kernel_rfl
theorem m_slope_265 (v : Value) : calm Tryz.prog (method (Tryz.prog.types.size + Made.depth) 265 v "eddy/element.slope") = some (307, v) := by kernel_rfl
theorem m_slope_267 (v : Value) : calm Tryz.prog (method (Tryz.prog.types.size + Made.depth) 267 v "eddy/element.slope") = some (310, v) := by kernel_rfl
theorem m_slope_268 (v : Value) : calm Tryz.prog (method (Tryz.prog.types.size + Made.depth) 268 v "eddy/element.slope") = some (313, v) := by kernel_rfl
theorem pick5 {t f a1 a2 a3 a4 a5 b1 b2 b3 b4 b5 : Nat} (h : (bif Nat.beq t a1 then some b1 else bif Nat.beq t a2 then some b2 else bif Nat.beq t a3 then some b3 else bif Nat.beq t a4 then some b4 else bif Nat.beq t a5 then some b5 else none) = some f) :
    (t = a1 ∧ f = b1) ∨ (t = a2 ∧ f = b2) ∨ (t = a3 ∧ f = b3) ∨ (t = a4 ∧ f = b4) ∨ (t = a5 ∧ f = b5) := by
  cases h1 : Nat.beq t a1 with
  | true => rw [h1] at h; exact .inl ⟨Nat.eq_of_beq_eq_true h1, (Option.some.inj h).symm⟩
  | false =>
    rw [h1] at h; refine .inr ?_
    cases h1 : Nat.beq t a2 with
    | true => rw [h1] at h; exact .inl ⟨Nat.eq_of_beq_eq_true h1, (Option.some.inj h).symm⟩
    | false =>
      rw [h1] at h; refine .inr ?_
      cases h1 : Nat.beq t a3 with
      | true => rw [h1] at h; exact .inl ⟨Nat.eq_of_beq_eq_true h1, (Option.some.inj h).symm⟩
      | false =>
        rw [h1] at h; refine .inr ?_
        cases h1 : Nat.beq t a4 with
        | true => rw [h1] at h; exact .inl ⟨Nat.eq_of_beq_eq_true h1, (Option.some.inj h).symm⟩
        | false =>
          rw [h1] at h; refine .inr ?_
          cases h1 : Nat.beq t a5 with
          | true => rw [h1] at h; exact ⟨Nat.eq_of_beq_eq_true h1, (Option.some.inj h).symm⟩
          | false => rw [h1] at h; cases h
theorem meth_ok : ∀ t s f, methT t s = some f → ∀ v w, (method (Tryz.prog.types.size + Made.depth) t v s).run Tryz.prog w = .ok (f, v) w := by
  intro t s f h v w
  unfold methT at h
  cases h_speed : (s == "eddy/element.speed") with
  | true =>
    rw [h_speed] at h
    have e : s = "eddy/element.speed" := by simpa using h_speed
    subst e
    rcases pick5 h with ⟨rfl, rfl⟩ | ⟨rfl, rfl⟩ | ⟨rfl, rfl⟩ | ⟨rfl, rfl⟩ | ⟨rfl, rfl⟩
    · exact calm_run (m_speed_261 v) w
    · exact calm_run (m_speed_263 v) w
    · exact calm_run (m_speed_265 v) w
    · exact calm_run (m_speed_267 v) w
    · exact calm_run (m_speed_268 v) w
  | false =>
    rw [h_speed] at h
    simp only [cond_false] at h
    cases h_potential : (s == "eddy/element.potential") with
    | true =>
      rw [h_potential] at h
      have e : s = "eddy/element.potential" := by simpa using h_potential
      subst e
      rcases pick5 h with ⟨rfl, rfl⟩ | ⟨rfl, rfl⟩ | ⟨rfl, rfl⟩ | ⟨rfl, rfl⟩ | ⟨rfl, rfl⟩
      · exact calm_run (m_potential_261 v) w
      · exact calm_run (m_potential_263 v) w
      · exact calm_run (m_potential_265 v) w
      · exact calm_run (m_potential_267 v) w
      · exact calm_run (m_potential_268 v) w
    | false =>
      rw [h_potential] at h
      simp only [cond_false] at h
      cases h_slope : (s == "eddy/element.slope") with
      | true =>
        rw [h_slope] at h
        have e : s = "eddy/element.slope" := by simpa using h_slope
        subst e
        rcases pick5 h with ⟨rfl, rfl⟩ | ⟨rfl, rfl⟩ | ⟨rfl, rfl⟩ | ⟨rfl, rfl⟩ | ⟨rfl, rfl⟩
        · exact calm_run (m_slope_261 v) w
        · exact calm_run (m_slope_263 v) w
        · exact calm_run (m_slope_265 v) w
        · exact calm_run (m_slope_267 v) w
        · exact calm_run (m_slope_268 v) w
      | false =>
        rw [h_slope] at h
        simp only [cond_false] at h
        cases h

theorem nanW_abs {b : Nat} (h : nanW b = true) : nanW (absW b) = true := by
  unfold nanW Ieee.Format.read at h ⊢
  have h1 : Ieee.double.signWeight = 2 ^ 63 := by decide
  have hm : absW b % 2 ^ 63 = b % 2 ^ 63 := by rw [absW_eq]; omega
  simp only [h1, hm] at h ⊢
  split
  · rename_i h2
    rw [if_pos h2] at h; cases h
  · rename_i h2
    rw [if_neg h2] at h
    split
    · rename_i h3
      rw [if_pos h3] at h; cases h
    · rename_i h3
      rw [if_neg h3] at h
      split
      · rename_i h4
        rw [if_pos h4] at h; cases h
      · rfl
theorem nan53 : ∀ b, nanW b = true → ∀ w, Calls Tryz.prog 53 ⟨[.float .f64 b]⟩ w fun e w' => (∃ c, nanW c = true ∧ e = .returned (.float .f64 c)) ∧ RowKit.Below w.heap.size w w' := by
  intro b hb w
  obtain ⟨_, v, h1, _, h2⟩ := k53 Value [.float .f64 b] some (.float .f64 (absW b)) rfl
  cases h1
  exact (h2 w).mono fun e w' ⟨he, hg⟩ => ⟨⟨_, nanW_abs hb, he⟩, hg⟩

theorem cxm_ok {l : List (Nat × Sum)} (h : AllOk Tryz.prog l) : (cxm Tryz.prog l).Ok where
  fair := fiReal_fair
  sums := fun f g hg => tab_ok h f g hg
  exts := fun f g hg => exts_ok extL_ok f g hg
  meths := meth_ok
  nan1 := fun f hf => by
    have : f = 53 := Nat.eq_of_beq_eq_true hf
    subst this
    exact ⟨h53, nan53⟩
  hs := fun f args H v h => by cases h

theorem h243 : Has Tryz.prog 243 := ⟨Tryz.f243, _, Tryz.func243, by kernel_rfl, rfl⟩
theorem h244 : Has Tryz.prog 244 := ⟨Tryz.f244, _, Tryz.func244, by kernel_rfl, rfl⟩
theorem h245 : Has Tryz.prog 245 := ⟨Tryz.f245, _, Tryz.func245, by kernel_rfl, rfl⟩
theorem h199 : Has Tryz.prog 199 := ⟨Tryz.f199, _, Tryz.func199, by kernel_rfl, rfl⟩
theorem h217 : Has Tryz.prog 217 := ⟨Tryz.f217, _, Tryz.func217, by kernel_rfl, rfl⟩
theorem h221 : Has Tryz.prog 221 := ⟨Tryz.f221, _, Tryz.func221, by kernel_rfl, rfl⟩
theorem h258 : Has Tryz.prog 258 := ⟨Tryz.f258, _, Tryz.func258, by kernel_rfl, rfl⟩
theorem k243 : SumOk Tryz.prog 243 (sCB placeK) := ok_sCB zm_ok (.cons k135 h135 .nil) (z_reals _)
theorem k244 : SumOk Tryz.prog 244 (sCB noughtK) := ok_sCB zm_ok .nil z_nought2
theorem k245 : SumOk Tryz.prog 245 sWh1 := sumOk_of zm_ok .nil (n := 60) fun R args k r hr => by
  unfold sWh1 at hr; split at hr
  · rename_i p
    cases hp : Nat.beq p 4607182418800017408 with
    | false => rw [hp] at hr; cases hr
    | true =>
      rw [hp] at hr
      have := Nat.eq_of_beq_eq_true hp
      subst this
      exact ⟨rfl, by rw [z_wh1]; exact hr⟩
  · cases hr
theorem k245' : SumOk Tryz.prog 245 (sFB wh1) := k245.weak fun R args k r hr => by
  refine ⟨k, ?_, fun v hv => hv⟩
  unfold sFB at hr; split at hr
  · rename_i p
    unfold wh1 at hr
    cases hp : Nat.beq p 4607182418800017408 with
    | false => rw [hp] at hr; cases hr
    | true =>
      rw [hp] at hr
      show (bif Nat.beq p 4607182418800017408 then k (.bool true) else none) = some r
      rw [hp]
      exact hr
  · cases hr
theorem k199 : SumOk Tryz.prog 199 (sEI checkK) := sumOk_of zm_ok (.cons k243 h243 (.cons k80 h80 (.cons k244 h244 (.cons k245' h245 .nil)))) (n := 60) fun R args k r hr => by
  unfold sEI at hr; split at hr
  · rename_i kind a1 a2 s1 s2 p
    exact ⟨rfl, (z_echeck placeK withinK noughtK wh1 R kind a1 a2 s1 s2 p k).trans hr⟩
  · cases hr
theorem k221 : SumOk Tryz.prog 221 (sW2 mulK) := sumOk_of zm_ok (.cons k22 h22 .nil) (n := 60) fun R args k r hr => by
  unfold sW2 at hr; split at hr
  · rename_i a b n
    cases hn : (n == 2) with
    | false => rw [hn] at hr; cases hr
    | true =>
      rw [hn] at hr
      have : n = 2 := by simpa using hn
      subst this
      exact ⟨rfl, (z_whole2 mulK R a b k).trans hr⟩
  · cases hr
theorem k258 : SumOk Tryz.prog 258 (sFF2 stepsK) := sumOk_of zm_ok .nil (n := 60) fun R args k r hr => by
  unfold sFF2 at hr; split at hr
  · rename_i y
    exact ⟨rfl, (z_steps R y k).trans hr⟩
  · cases hr

theorem cxe_ok' {l : List (Nat × Sum)} (h : AllOk Tryz.prog l) : (cxe Tryz.prog l).Ok where
  fair := fiReal_fair
  sums := fun f g hg => tab_ok h f g hg
  exts := fun f g hg => by cases hg
  meths := meth_ok
  nan1 := fun f hf => by cases hf
  hs := fun f args H v h => by cases h
theorem k217 : SumOk Tryz.prog 217 (sSp spSK spOK spDK) := by
  intro R args k r hr
  unfold sSp at hr
  split at hr
  · rename_i kind a1 a2 s1 s2 p z1 z2
    cases h1 : (kind == 1 && Nat.beq p 0) with
    | true =>
      rw [h1] at hr
      simp only [Bool.and_eq_true, beq_iff_eq, Nat.beq_eq] at h1
      obtain ⟨rfl, rfl⟩ := h1
      exact ⟨rfl, evFn_sound (cxe_ok' (.cons k199 h199 (.cons k243 h243 (.cons k244 h244 (.cons k93 h93 (.cons k21 h21 .nil)))))) zm_ok ((z_spS placeK withinK noughtK FiniteK wh1 subK R a1 a2 s1 s2 z1 z2 k).trans hr) rfl⟩
    | false =>
      rw [h1] at hr
      simp only [cond_false] at hr
      cases h2 : (kind == 2 && Nat.beq p 0) with
      | true =>
        rw [h2] at hr
        simp only [Bool.and_eq_true, beq_iff_eq, Nat.beq_eq] at h2
        obtain ⟨rfl, rfl⟩ := h2
        exact ⟨rfl, evFn_sound (cxe_ok' (.cons k199 h199 (.cons k243 h243 (.cons k244 h244 (.cons k93 h93 (.cons k21 h21 (.cons k179 h179 (.cons k39 h39 (.cons k165 h165 .nil))))))))) zm_ok
          ((z_spO placeK withinK noughtK FiniteK wh1 subK divK sclK R a1 a2 s1 s2 z1 z2 k).trans hr) rfl⟩
      | false =>
        rw [h2] at hr
        simp only [cond_false] at hr
        cases h3 : (kind == 3 && Nat.beq p 4607182418800017408) with
        | true =>
          rw [h3] at hr
          simp only [Bool.and_eq_true, beq_iff_eq, Nat.beq_eq] at h3
          obtain ⟨rfl, rfl⟩ := h3
          exact ⟨rfl, evFn_sound (cxe_ok' (.cons k199 h199 (.cons k243 h243 (.cons k244 h244 (.cons k245 h245 (.cons k93 h93 (.cons k21 h21 (.cons k179 h179 (.cons k39 h39 (.cons k221 h221 .nil)))))))))) zm_ok
            ((z_spD placeK withinK noughtK FiniteK subK divK mulK sclK R a1 a2 s1 s2 z1 z2 k).trans hr) rfl⟩
        | false => rw [h3] at hr; cases hr
  · cases hr

theorem hot_ok : AllOk Tryz.prog hot :=
  .cons k199 h199 (.cons k217 h217 (.cons k258 h258 (.cons k243 h243 (.cons k244 h244 (.cons k245 h245 (.cons k221 h221 (.cons k53 h53 (.cons k22 h22 (.cons k84 h84 (.cons k21 h21 (.cons k80 h80 (.cons k135 h135 (.cons k141 h141 (.cons k93 h93 (.cons k179 h179 (.cons k81 h81 (.cons k86 h86
  (.cons k79 h79 (.cons k23 h23 (.cons k87 h87 (.cons k112' h112 (.cons k113'' h113 (.cons k114 h114 (.cons k275 h275 (.cons k260 h260 (.cons k229 h229 (.cons k200 h200 (.cons k77 h77
  (.cons k247 h247 (.cons k201 h201 (.cons k117 h117 (.cons k115 h115 (.cons k116 h116 (.cons k119 h119 (.cons k118 h118 (.cons k38 h38 (.cons k39 h39
  (.cons k165 h165 (.cons k265 h265 (.cons k273 h273 (.cons k238 h238 (.cons k249 h249 (.cons k266 h266 (.cons k267 h267 (.cons k233 h233 (.cons k189 h189 .nil))))))))))))))))))))))))))))))))))))))))))))))

theorem sumOk_m {l : List (Nat × Sum)} (h : AllOk Tryz.prog l) {n : Nat} {f : FuncId} {g : Sum}
    (hg : ∀ (R : Type) (args : List Value) (k : Value → Option R) (r : R), g R args k = some r → inns 0 args = true ∧ evFn (cxm Tryz.prog l) n f args k = some r) : SumOk Tryz.prog f g := by
  intro R args k r h1
  obtain ⟨h2, h3⟩ := hg R args k r h1
  exact ⟨h2, evFn_sound (cxm_ok h) zm_ok h3 h2⟩
end Go.Vm
namespace Go.Vm
open Go.Proofs
set_option linter.unusedVariables false
set_option linter.unusedSimpArgs false
set_option maxRecDepth 1000000

/-! ### Elements that lie in memory -/
structure El where
  kind : Int
  a1 : Nat
  a2 : Nat
  s1 : Nat
  s2 : Nat
  p : Nat
def El.v (x : El) : Value := elV x.kind x.a1 x.a2 x.s1 x.s2 x.p
def El.cs (x : El) : List Value := [.int .u8 x.kind, .complex .f64 x.a1 x.a2, .complex .f64 x.s1 x.s2, .float .f64 x.p]
def ElsAt (cs : List Value) (o : Nat) (xs : List El) : Prop := ∀ i x, xs[i]? = some x → ∃ rest, cs.drop (o + i * 4) = x.cs ++ rest
theorem rEl_at {cs : List Value} {o : Nat} {xs : List El} (h : ElsAt cs o xs) {i : Nat} {x : El} (hx : xs[i]? = some x) (R : Type) (k : Int → Nat → Nat → Nat → Nat → Nat → Option R) : rEl R cs (o + i * 4) k = k x.kind x.a1 x.a2 x.s1 x.s2 x.p := by
  obtain ⟨rest, e⟩ := h i x hx
  unfold rEl
  rw [e]
  rfl
def flowV (o n c : Nat) : Value := .agg ⟨[.slice (some ⟨0, o, none⟩) n c]⟩

/-! ### flow.Check -/
noncomputable def ckLoop : Code := loopNo (codeOf 107) 0
def ckE (o n c : Nat) (k : Int) : Env := [(13, .int .i64 k), (12, .int .i64 n), (11, .slice (some ⟨0, o, none⟩) n c)]
def ckX (o n c : Nat) (k e : Int) : Env := [(13, .int .i64 k), (12, .int .i64 n), (11, .slice (some ⟨0, o, none⟩) n c), (2, .int .i64 e)]
noncomputable def ckC (fi : Fi) (ge : GEl) (st : St) (ap : Ap) (chk : KEI) : Cx := cxM fi Tryz.prog (fun _ _ => none) [(199, sEI chk)] [] [] [] (mmOf (fun b => Nat.blt b 1) [(66, gEl ge)] st ap)
theorem ck_round (fi : Fi) (R : Type) (ge : GEl) (st : St) (ap : Ap) (chk : KEI) (cs : List Value) (sz o n c k : Nat) (K : Ex → Env → Objs → Option R) :
    evTop (ckC fi ge st ap chk) 60 noL 1 23 ckLoop (ckE o n c k) ⟨2, [(0, .cells cs sz)]⟩ (takeC [13, 12, 11, 2] [] K) =
    bif decide ((k : Int) < n) then
      bif decide (0 ≤ (k : Int)) && decide ((k : Int) < n) && true then
        ge R cs (o + k * 4) fun kind a1 a2 s1 s2 p => chk R kind a1 a2 s1 s2 p fun e =>
          bif e != 0 then K .ret (ckX o n c k e) [] else fi R (IntKind.i64.wrap (k + 1)) fun m => K .normal (ckE o n c m) []
      else none
    else K (.exit 0) (ckE o n c k) [] := by kernel_rfl
theorem ck_top (fi : Fi) (L : Hand) (R : Type) (ge : GEl) (st : St) (ap : Ap) (chk : KEI) (cs : List Value) (sz o n c : Nat) (K : Ex → Env → Objs → Option R) :
    evTop (ckC fi ge st ap chk) 60 (slimL [13, 12, 11] [0] L) 1 23 (codeOf 107) (enumE 0 [flowV o n c]) ⟨1, [(0, .cells cs sz)]⟩ (takeC [2] [] K) =
    bif decide ((n : Int) > 256) then K .ret [(2, .int .i64 7)] []
    else L R 1 23 ckLoop (ckE o n c 0) ⟨2, [(0, .cells cs sz)]⟩ (leaveE 0 (thenE (fun e H => evTop (ckC fi ge st ap chk) 60 (slimL [13, 12, 11] [0] L) 1 23 (seqN 3 (codeOf 107)) e H (takeC [2] [] K)) (takeC [2] [] K))) := by kernel_rfl
theorem ck_end (fi : Fi) (L : Hand) (R : Type) (ge : GEl) (st : St) (ap : Ap) (chk : KEI) (cs : List Value) (sz o n c : Nat) (k : Int) (K : Ex → Env → Objs → Option R) :
    evTop (ckC fi ge st ap chk) 60 (slimL [13, 12, 11] [0] L) 1 23 (seqN 3 (codeOf 107)) (ckE o n c k) ⟨2, [(0, .cells cs sz)]⟩ (takeC [2] [] K) = K .ret [(2, .int .i64 0)] [] := by kernel_rfl
theorem ck_loops : loopsIn ckLoop = [] := by kernel_rfl
theorem ck_body : Tryz.f107.body = some (codeOf 107) := by kernel_rfl
theorem lds1 : LdsOk Tryz.prog [(66, gEl rEl)] := .cons (ldEl_ok more66) .nil
theorem no_meth {P : Program} : ∀ t s f, (fun (_ : TypeId) (_ : String) => (none : Option FuncId)) t s = some f → ∀ v w, (method (P.types.size + Made.depth) t v s).run P w = .ok (f, v) w := fun t s f h => by cases h
theorem no_ext {P : Program} : ∀ f g, tab ([] : List (Nat × Sum)) f = some g → ExtOk P f g := fun f g h => by cases h
theorem ckC_ok : (ckC fiReal rEl rSt (rAp Tryz.prog) checkK).Ok := cxM_ok no_meth (.cons k199 h199 .nil) no_ext .nil .nil (mmOf_ok lds1)
theorem wrap_up {k : Nat} (h : k < 1000000) : IntKind.i64.wrap ((k : Int) + 1) = ((k + 1 : Nat) : Int) := by
  rw [wrapI (by omega) (by omega)]; omega
def Told (er : El → Int) (x : El) : Prop := ∀ (R : Type) (k : Int → Option R), checkK R x.kind x.a1 x.a2 x.s1 x.s2 x.p k = k (er x)
def firstEr : List Int → Int
  | [] => 0
  | e :: r => if e = 0 then firstEr r else e
def flowEr (er : El → Int) (xs : List El) : Int := if 256 < xs.length then 7 else firstEr (xs.map er)
theorem idx_ok (k : Nat) : (decide (0 ≤ (k : Int)) && true && true) = true := by
  rw [decide_eq_true (show (0 : Int) ≤ (k : Int) by omega)]; rfl
section
variable {cs : List Value} {sz o c : Nat} {xs : List El} {er : El → Int}
theorem ck_step (hx : ElsAt cs o xs) (hn : xs.length ≤ 256) {k : Nat} {x : El} (hk : xs[k]? = some x) (he : Told er x) (h0 : er x = 0) :
    BaseOk Tryz.prog 1 23 ⟨2, [(0, .cells cs sz)]⟩ (ckE o xs.length c k) ⟨2, [(0, .cells cs sz)]⟩ .normal (ckE o xs.length c (k + 1 : Nat)) ⟨2, [(0, .cells cs sz)]⟩ (fun Q a w => ckLoop.wp Tryz.prog Q a w) := by
  have hkn := (List.getElem?_eq_some_iff.1 hk).1
  exact round_told (C := ckC fiReal rEl rSt (rAp Tryz.prog) checkK) (H0 := ⟨2, [(0, .cells cs sz)]⟩) (e := ckE o xs.length c k) (H := ⟨2, [(0, .cells cs sz)]⟩) (n := 60) (ts := [13, 12, 11, 2]) (bo := []) (bs := []) (A := []) (B := [(0, .cells cs sz)]) (D := []) ckC_ok zm_ok ck_loops
    (by rw [ck_round, decide_eq_true (show (k : Int) < xs.length by omega), cond_true, idx_ok, cond_true, rEl_at hx hk, he, h0]
        show fiReal _ _ _ = _
        rw [fiReal_fair, wrap_up (by omega)]) rfl rfl rfl rfl rfl rfl rfl
theorem ck_bad (hx : ElsAt cs o xs) (hn : xs.length ≤ 256) {k : Nat} {x : El} (hk : xs[k]? = some x) (he : Told er x) (h0 : er x ≠ 0) :
    BaseOk Tryz.prog 1 23 ⟨2, [(0, .cells cs sz)]⟩ (ckE o xs.length c k) ⟨2, [(0, .cells cs sz)]⟩ .ret (ckX o xs.length c k (er x)) ⟨2, [(0, .cells cs sz)]⟩ (fun Q a w => ckLoop.wp Tryz.prog Q a w) := by
  have hkn := (List.getElem?_eq_some_iff.1 hk).1
  exact round_told (C := ckC fiReal rEl rSt (rAp Tryz.prog) checkK) (H0 := ⟨2, [(0, .cells cs sz)]⟩) (e := ckE o xs.length c k) (H := ⟨2, [(0, .cells cs sz)]⟩) (n := 60) (ts := [13, 12, 11, 2]) (bo := []) (bs := []) (A := []) (B := [(0, .cells cs sz)]) (D := []) ckC_ok zm_ok ck_loops
    (by rw [ck_round, decide_eq_true (show (k : Int) < xs.length by omega), cond_true, idx_ok, cond_true, rEl_at hx hk, he, show (er x != 0) = true by simpa using h0]
        rfl) rfl rfl rfl rfl rfl rfl rfl
theorem ck_last {n : Nat} :
    BaseOk Tryz.prog 1 23 ⟨2, [(0, .cells cs sz)]⟩ (ckE o n c n) ⟨2, [(0, .cells cs sz)]⟩ (.exit 0) (ckE o n c n) ⟨2, [(0, .cells cs sz)]⟩ (fun Q a w => ckLoop.wp Tryz.prog Q a w) :=
  round_told (C := ckC fiReal rEl rSt (rAp Tryz.prog) checkK) (H0 := ⟨2, [(0, .cells cs sz)]⟩) (e := ckE o n c n) (H := ⟨2, [(0, .cells cs sz)]⟩) (n := 60) (ts := [13, 12, 11, 2]) (bo := []) (bs := []) (A := []) (B := [(0, .cells cs sz)]) (D := []) ckC_ok zm_ok ck_loops
    (by rw [ck_round, decide_eq_false (by omega)]; rfl) rfl rfl rfl rfl rfl rfl rfl
theorem ck_rounds (hx : ElsAt cs o xs) (hn : xs.length ≤ 256) (he : ∀ x ∈ xs, Told er x) : ∀ (ys : List El) (k : Nat), xs.drop k = ys → k ≤ xs.length →
    ∃ ex e', BaseRounds Tryz.prog 1 23 ⟨2, [(0, .cells cs sz)]⟩ ckLoop (ckE o xs.length c k) ⟨2, [(0, .cells cs sz)]⟩ ex e' ⟨2, [(0, .cells cs sz)]⟩ ∧
      ((ex = .exit 0 ∧ e' = ckE o xs.length c xs.length ∧ firstEr (ys.map er) = 0) ∨ (ex = .ret ∧ ∃ j : Nat, e' = ckX o xs.length c j (firstEr (ys.map er))))
  | [], k, hd, hk => by
    have : k = xs.length := by have := congrArg List.length hd; rw [List.length_drop] at this; simp at this; omega
    subst this
    exact ⟨_, _, base_end (by intro h; cases h) ck_last, .inl ⟨rfl, rfl, rfl⟩⟩
  | y :: ys, k, hd, hk => by
    have hkx : xs[k]? = some y := by rw [← List.head?_drop, hd]; rfl
    have hm : y ∈ xs := List.mem_of_getElem? hkx
    have hl := (List.getElem?_eq_some_iff.1 hkx).1
    by_cases h0 : er y = 0
    · obtain ⟨ex, e', h1, h2⟩ := ck_rounds hx hn he ys (k + 1) (by rw [← List.tail_drop, hd]; rfl) (by omega)
      refine ⟨ex, e', base_step (ck_step hx hn hkx (he y hm) h0) h1, ?_⟩
      simp only [List.map_cons, firstEr, if_pos h0]
      exact h2
    · refine ⟨_, _, base_end (by intro h; cases h) (ck_bad hx hn hkx (he y hm) h0), .inr ⟨rfl, k, ?_⟩⟩
      simp only [List.map_cons, firstEr, if_neg h0]
/-- FLOW.CHECK: the first error, if there is one -/
theorem check_call (hx : ElsAt cs o xs) (he : xs.length ≤ 256 → ∀ x ∈ xs, Told er x) : FlatCall Tryz.prog 107 [flowV o xs.length c] ⟨1, [(0, .cells cs sz)]⟩ (.int .i64 (flowEr er xs)) := by
  by_cases hn : 256 < xs.length
  · have h := ck_top fiReal noL (Ex × Env × Objs) rEl rSt (rAp Tryz.prog) checkK cs sz o xs.length c fun ex e O => some (ex, e, O)
    rw [decide_eq_true (by omega), cond_true] at h
    have := fun_flat (C := ckC fiReal rEl rSt (rAp Tryz.prog) checkK) ckC_ok zm_ok Tryz.func107 ck_body (fun a _ => slimL_ok noL_ok) (Nat.le_of_ble_eq_true rfl) h (.inr rfl) (vs := [.int .i64 7]) rfl rfl
    unfold flowEr
    rw [if_pos hn]
    exact this
  · obtain ⟨ex, e', h1, h2⟩ := ck_rounds (c := c) (sz := sz) hx (by omega) (he (by omega)) xs 0 rfl (Nat.zero_le _)
    have hl := @base_loop _ _ _ _ _ _ _ _ _ h1
    have h := ck_top fiReal (told Tryz.prog ex e' ⟨2, [(0, .cells cs sz)]⟩) (Ex × Env × Objs) rEl rSt (rAp Tryz.prog) checkK cs sz o xs.length c fun ex e O => some (ex, e, O)
    rw [decide_eq_false (by omega), cond_false] at h
    have h' := h.trans (told_eq @hl _ _)
    unfold flowEr
    rw [if_neg hn]
    rcases h2 with ⟨rfl, rfl, h2⟩ | ⟨rfl, j, rfl⟩
    · rw [leave_then, ck_end] at h'
      rw [h2]
      exact fun_flat (C := ckC fiReal rEl rSt (rAp Tryz.prog) checkK) ckC_ok zm_ok Tryz.func107 ck_body (fun a _ => slimL_ok (told_ok _ _ _ _ a)) (Nat.le_of_ble_eq_true rfl) h' (.inr rfl) (vs := [.int .i64 0]) rfl rfl
    · exact fun_flat (C := ckC fiReal rEl rSt (rAp Tryz.prog) checkK) ckC_ok zm_ok Tryz.func107 ck_body (fun a _ => slimL_ok (told_ok _ _ _ _ a)) (Nat.le_of_ble_eq_true rfl) h' (.inr rfl) (vs := [.int .i64 (firstEr (xs.map er))]) rfl rfl
end
end Go.Vm
namespace Go.Vm
set_option linter.unusedVariables false

/-! ### ForceLift -/
abbrev KLift := ∀ R : Type, Int → Int → Int → Int → Int → Int → (Bool → Option R) → Option R
def liftB (wh : KIF) (ab md : KFF) (ei : KE1) (fit : KFFF1) (cj ng tm : KCC) (sc : KCFC) (cl : KCl) (sd : KSd) (sub add mul : KCCC) (fC : KC1) (fF : KF1) (nr : KFFF1) : KLift := fun R s t turn x y radius k =>
  wh R x fun w0_0 =>
  wh R y fun w1_0 =>
  wh R radius fun w2_0 =>
  ab R w2_0 fun w3_0 =>
  md R w3_0 fun w4_0 =>
  bindF (fbF .add 4607182418800017408 w4_0) fun w6_0 =>
  wh R s fun w7_0 =>
  wh R t fun w8_0 =>
  wh R turn fun w9_0 =>
  ei R 1 0 0 w7_0 w8_0 0 <|
  fit R w0_0 w1_0 w6_0 <|
  cj R w7_0 w8_0 fun w10_0 w10_1 =>
  bindF (fbF .mul w6_0 w6_0) fun w12_0 =>
  sc R w10_0 w10_1 w12_0 fun w13_0 w13_1 =>
  ei R 1 0 0 w7_0 w8_0 0 <|
  ei R 3 w0_0 w1_0 w13_0 w13_1 4607182418800017408 <|
  forceN (Op.negFloat .f64 w9_0) fun w14_0 =>
  ei R 1 0 0 w7_0 w8_0 0 <|
  ei R 3 w0_0 w1_0 w13_0 w13_1 4607182418800017408 <|
  ei R 2 w0_0 w1_0 0 w14_0 0 <|
  bindF (fbF .mul 4611686018427387904 w6_0) fun w16_0 =>
  cl R ([.int .u8 1, .complex .f64 0 0, .complex .f64 w7_0 w8_0, .float .f64 0, .int .u8 3, .complex .f64 w0_0 w1_0, .complex .f64 w13_0 w13_1, .float .f64 4607182418800017408, .int .u8 2, .complex .f64 w0_0 w1_0, .complex .f64 0 w14_0, .float .f64 0]) w0_0 w1_0 w16_0 true <|
  ei R 1 0 0 w7_0 w8_0 0 <|
  ei R 3 w0_0 w1_0 w13_0 w13_1 4607182418800017408 <|
  sd R 3 w0_0 w1_0 w13_0 w13_1 4607182418800017408 w0_0 w1_0 w16_0 <|
  ei R 1 0 0 w7_0 w8_0 0 <|
  sub R w0_0 w1_0 0 0 fun w17_0 w17_1 =>
  ei R 3 w0_0 w1_0 w13_0 w13_1 4607182418800017408 <|
  sd R 3 w0_0 w1_0 w13_0 w13_1 4607182418800017408 w0_0 w1_0 w16_0 <|
  ei R 2 w0_0 w1_0 0 w14_0 0 <|
  sc R 0 w14_0 4594902181429758083 fun w18_0 w18_1 =>
  sd R 2 w0_0 w1_0 0 w14_0 0 w0_0 w1_0 w16_0 <|
  ng R w13_0 w13_1 fun w19_0 w19_1 =>
  mul R w19_0 w19_1 0 0 fun w20_0 w20_1 =>
  sc R w20_0 w20_1 4607182418800017408 fun w21_0 w21_1 =>
  ei R 2 w0_0 w1_0 0 w14_0 0 <|
  sc R 0 w14_0 4594902181429758083 fun w22_0 w22_1 =>
  sd R 2 w0_0 w1_0 0 w14_0 0 w0_0 w1_0 w16_0 <|
  ei R 1 0 0 w7_0 w8_0 0 <|
  sub R w0_0 w1_0 0 0 fun w23_0 w23_1 =>
  ei R 3 w0_0 w1_0 w13_0 w13_1 4607182418800017408 <|
  sd R 3 w0_0 w1_0 w13_0 w13_1 4607182418800017408 w0_0 w1_0 w16_0 <|
  ei R 2 w0_0 w1_0 0 w14_0 0 <|
  sc R 0 w14_0 4594902181429758083 fun w24_0 w24_1 =>
  sd R 2 w0_0 w1_0 0 w14_0 0 w0_0 w1_0 w16_0 <|
  sc R 0 w14_0 4594902181429758083 fun w25_0 w25_1 =>
  mul R w25_0 w25_1 w7_0 w8_0 fun w26_0 w26_1 =>
  add R w21_0 w21_1 w26_0 w26_1 fun w27_0 w27_1 =>
  sc R w27_0 w27_1 4611686018427387904 fun w28_0 w28_1 =>
  fC R w28_0 w28_1 <|
  cl R ([.int .u8 1, .complex .f64 0 0, .complex .f64 w7_0 w8_0, .float .f64 0, .int .u8 3, .complex .f64 w0_0 w1_0, .complex .f64 w13_0 w13_1, .float .f64 4607182418800017408, .int .u8 2, .complex .f64 w0_0 w1_0, .complex .f64 0 w14_0, .float .f64 0]) w0_0 w1_0 w16_0 false <|
  sd R 1 0 0 w7_0 w8_0 0 w0_0 w1_0 w16_0 <|
  sd R 3 w0_0 w1_0 w13_0 w13_1 4607182418800017408 w0_0 w1_0 w16_0 <|
  sd R 2 w0_0 w1_0 0 w14_0 0 w0_0 w1_0 w16_0 <|
  sc R 0 w14_0 4594902181429758083 fun w29_0 w29_1 =>
  mul R w29_0 w29_1 w29_0 w29_1 fun w30_0 w30_1 =>
  sub R w0_0 w1_0 w0_0 w1_0 fun w31_0 w31_1 =>
  sub R w0_0 w1_0 0 0 fun w32_0 w32_1 =>
  mul R w31_0 w31_1 0 0 fun w33_0 w33_1 =>
  sub R w0_0 w1_0 0 0 fun w34_0 w34_1 =>
  sc R w7_0 w8_0 4607182418800017408 fun w35_0 w35_1 =>
  add R w33_0 w33_1 w35_0 w35_1 fun w36_0 w36_1 =>
  ng R w13_0 w13_1 fun w37_0 w37_1 =>
  mul R w37_0 w37_1 w36_0 w36_1 fun w38_0 w38_1 =>
  sc R w38_0 w38_1 4607182418800017408 fun w39_0 w39_1 =>
  sc R w39_0 w39_1 4611686018427387904 fun w40_0 w40_1 =>
  add R w30_0 w30_1 w40_0 w40_1 fun w41_0 w41_1 =>
  sub R w0_0 w1_0 w0_0 w1_0 fun w42_0 w42_1 =>
  sc R 0 w14_0 4594902181429758083 fun w43_0 w43_1 =>
  sub R w0_0 w1_0 0 0 fun w44_0 w44_1 =>
  mul R w43_0 w43_1 w42_0 w42_1 fun w45_0 w45_1 =>
  mul R w45_0 w45_1 w7_0 w8_0 fun w46_0 w46_1 =>
  sc R w46_0 w46_1 4611686018427387904 fun w47_0 w47_1 =>
  add R w41_0 w41_1 w47_0 w47_1 fun w48_0 w48_1 =>
  sc R w28_0 w28_1 13837628693406821656 fun w49_0 w49_1 =>
  cj R w49_0 w49_1 fun w50_0 w50_1 =>
  bindF (fbF .mul 4614256656552045848 w48_1) fun w52_0 =>
  fC R w50_0 w50_1 <|
  fF R w52_0 <|
  cj R w7_0 w8_0 fun w53_0 w53_1 =>
  tm R w53_0 w53_1 fun w54_0 w54_1 =>
  forceN (Op.negFloat .f64 w9_0) fun w55_0 =>
  sc R w54_0 w54_1 w55_0 fun w56_0 w56_1 =>
  ab R w56_0 fun w57_0 =>
  ab R w56_1 fun w58_0 =>
  bindF (fbF .add w57_0 w58_0) fun w60_0 =>
  ab R w7_0 fun w61_0 =>
  ab R w8_0 fun w62_0 =>
  bindF (fbF .add w61_0 w62_0) fun w64_0 =>
  ab R w9_0 fun w65_0 =>
  bindF (fbF .add w64_0 w65_0) fun w67_0 =>
  bindF (fbF .mul w60_0 4427038433705197568) fun w69_0 =>
  nr R w50_0 w56_0 w69_0 <|
  bindF (fbF .mul w60_0 4427038433705197568) fun w71_0 =>
  nr R w50_1 w56_1 w71_0 <|
  ab R w52_0 fun w72_0 =>
  bindF (fbF .mul w6_0 w6_0) fun w74_0 =>
  bindF (fbF .mul w74_0 w67_0) fun w76_0 =>
  bindF (fbF .mul w76_0 w67_0) fun w78_0 =>
  bindF (fbF .mul w78_0 4427038433705197568) fun w80_0 =>
  forceB (leF w72_0 w80_0) fun t => k t

def conjK : KCC := fun R a b k => forceN (Op.negFloat .f64 b) fun y => k a y
def timesK : KCC := fun R a b k => forceN (Op.negFloat .f64 b) fun x => k x a
def wholeGB (fi : Fi) : KIF := fun R n k => fi R (n.tmod 1001) fun m => forceN (floatOfInt .f64 m) k
def wholeG : KIF := wholeGB fiReal
abbrev KFFFB := ∀ R : Type, Nat → Nat → Nat → (Bool → Option R) → Option R
def sFitB (g : KFFFB) : Sum := fun R args k => match args with
  | [.agg ⟨[.complex .f64 a b, .float .f64 c]⟩] => g R a b c fun t => k (.bool t)
  | _ => none
def fitB (pl : KCFB) : KFFFB := fun R a b r k => pl R a b 4787326403894837248 fun t => forceB t fun t => match t with
  | false => k false
  | true => forceB (geF r 4427038433705197568) fun t => match t with
    | false => k false
    | true => forceB (leF r 4787326403894837248) fun t => k t
def sFFFB (g : KFFFB) : Sum := fun R args k => match args with
  | [.float .f64 a, .float .f64 b, .float .f64 c] => g R a b c fun t => k (.bool t)
  | _ => none
def nearFB (ab : KFF) : KFFFB := fun R a b m k => bindF (fbF .sub a b) fun d => ab R d fun e => forceB (leF e m) fun t => k t
/-- where an element lies -/
def sideB (sub : KCCC) (ln : KCF) : ∀ R : Type, Int → Nat → Nat → Nat → Nat → Nat → (Int → Option R) → Option R := fun R kind a b c1 c2 r k =>
  sub R a b c1 c2 fun x y => ln R x y fun l => bif kind == 1 then k 0 else forceB (ltF l r) fun t => match t with | true => k (-1) | false => k 1
/-- clean: a Stream, a Doublet, a Source -/
def cleanB (ei : KE1) (pl : KCFB) (sub : KCCC) (ln : KCF) : ∀ R : Type, Nat → Nat → Nat → Nat → Nat → Nat → Nat → Nat → Nat → Nat → Nat → Nat → Nat → Nat → Nat → Nat → Nat → Nat → (Int → Option R) → Option R :=
  fun R b1 b2 t1 t2 p1 a1 a2 s1 s2 p2 d1 d2 r1 r2 p3 c1 c2 r k =>
  ei R 1 b1 b2 t1 t2 p1 <| ei R 3 a1 a2 s1 s2 p2 <| ei R 2 d1 d2 r1 r2 p3 <| pl R c1 c2 4787326403894837248 fun t => forceB t fun t => match t with
  | false => k 5
  | true => forceB (geF r 4427038433705197568) fun t => match t with
    | false => k 5
    | true => forceB (leF r 4787326403894837248) fun t => match t with
      | false => k 5
      | true => bindF (fbF .mul r 4517110426252607488) fun h => sub R b1 b2 c1 c2 fun x y => ln R x y fun _ => sub R a1 a2 c1 c2 fun x y => ln R x y fun l =>
        bindF (fbF .add r h) fun u => forceB (leF l u) fun t => match t with
        | true => bindF (fbF .sub r h) fun v => forceB (geF l v) fun t => match t with
          | true => k 210
          | false => sub R d1 d2 c1 c2 fun x y => ln R x y fun l => bindF (fbF .add r h) fun u => forceB (leF l u) fun t => match t with
            | true => bindF (fbF .sub r h) fun v => forceB (geF l v) fun t => match t with | true => k 210 | false => k 0
            | false => k 0
        | false => sub R d1 d2 c1 c2 fun x y => ln R x y fun l => bindF (fbF .add r h) fun u => forceB (leF l u) fun t => match t with
            | true => bindF (fbF .sub r h) fun v => forceB (geF l v) fun t => match t with | true => k 210 | false => k 0
            | false => k 0
/-- the rest by 1000 of what is less -/
def modE (n2 : KFFF1) (n1 : KF1) : KFF := fun R x k => n2 R x 0 0 <| n1 R x <| n1 R 4652007308841189376 <| forceB (ltF x 0) fun t => match t with
  | true => forceN (Op.negFloat .f64 x) fun r => forceB (geF r 4652007308841189376) fun t => match t with
    | true => bif Nat.beq r 4652007308841189376 then none else none
    | false => forceB (ltF x 0) fun t => match t with | true => forceN (Op.negFloat .f64 r) fun r => k r | false => k r
  | false => forceB (geF x 4652007308841189376) fun t => match t with
    | true => bif Nat.beq x 4652007308841189376 then none else none
    | false => forceB (ltF x 0) fun t => match t with | true => forceN (Op.negFloat .f64 x) fun r => k r | false => k x
def n2K : KFFF1 := fun R a _ _ X => isInfK R a fun t => match t with | false => X | true => none
def n1K : KF1 := fun R a X => isNanK R a fun t => match t with | false => X | true => none
def modK : KFF := fun R x k => bif Nat.beq x 4652007308841189376 then k 0 else modE n2K n1K R x k

/-! ### Told at once -/
def yesI {R : Type} (X : Option R) : Int → Option R := fun e => match decide (e = 0) with | true => X | false => none
def yesB {R : Type} (X : Option R) : Bool → Option R := fun t => match t with | true => X | false => none
def eiT (ck : KEI) : KE1 := fun R kind a1 a2 s1 s2 p X => ck R kind a1 a2 s1 s2 p (yesI X)
def fitT (pl : KCFB) : KFFF1 := fun R a b r X => fitB pl R a b r (yesB X)
def nrT (ab : KFF) : KFFF1 := fun R a b r X => nearFB ab R a b r (yesB X)
def fCT (g : KCB) : KC1 := fun R a b X => g R a b (yesB X)
def fFT (g : KFB) : KF1 := fun R a X => g R a (yesB X)
def sdT (sub : KCCC) (ln : KCF) : KSd := fun R kind a1 a2 s1 s2 p c1 c2 r X => bif kind == 1 || kind == 2 || kind == 3 then
  sideB sub ln R kind a1 a2 c1 c2 r fun i => bif kind == 1 then X else (match decide (i = -1) with | true => X | false => none) else none
def clT (ei : KE1) (pl : KCFB) (sub : KCCC) (ln : KCF) : KCl := fun R cs c1 c2 r t X => match cs with
  | [.int .u8 k1, .complex .f64 b1 b2, .complex .f64 t1 t2, .float .f64 p1, .int .u8 k2, .complex .f64 a1 a2, .complex .f64 s1 s2, .float .f64 p2, .int .u8 k3, .complex .f64 d1 d2, .complex .f64 r1 r2, .float .f64 p3] =>
    bif k1 == 1 && k2 == 3 && k3 == 2 then cleanB ei pl sub ln R b1 b2 t1 t2 p1 a1 a2 s1 s2 p2 d1 d2 r1 r2 p3 c1 c2 r (yesI X) else none
  | _ => none
end Go.Vm
namespace Go.Vm
open Go.Proofs
set_option linter.unusedVariables false
set_option linter.unusedSimpArgs false
set_option maxRecDepth 1000000

/-! ### Lists of elements that grow -/
theorem ap55 (R : Type) (cs : List Value) (n c : Nat) (cx : List Value) (off m : Nat) (k : List Value → Option R) : rAp Tryz.prog R 55 cs n c cx off m k =
    bif true && true && Nat.beq c n && Nat.blt 0 m && Nat.ble ((n + m) * 48) 140737488355328 && Nat.ble (n + m) 1099511627776 && Nat.beq cs.length (n * 4) && Nat.beq ((cx.drop off).take (m * 4)).length (m * 4) && allOne ((cx.drop off).take (m * 4)) then
      k (cs ++ (cx.drop off).take (m * 4)) else none := by kernel_rfl
theorem ap55_ok {R : Type} {cs cx : List Value} {n off m : Nat} {k : List Value → Option R} (h1 : cs.length = n * 4) (h2 : ((cx.drop off).take (m * 4)).length = m * 4) (h3 : allOne ((cx.drop off).take (m * 4)) = true) (hm : 0 < m) (hn : n + m < 1000000) :
    rAp Tryz.prog R 55 cs n n cx off m k = k (cs ++ (cx.drop off).take (m * 4)) := by
  rw [ap55, h1, h2, h3, blt_eq_of hm, ble_eq_of (show (n + m) * 48 ≤ 140737488355328 by omega), ble_eq_of (show n + m ≤ 1099511627776 by omega), Nat.beq_refl, Nat.beq_refl, Nat.beq_refl]
  rfl
theorem base_while {σ : Type} {P : Program} {lo sz : Nat} {a : Code} {H0 : AH} {E : Nat → σ → Env} {H : Nat → σ → AH} {ex : Ex} {e' : σ → Env} {H' : σ → AH} (n : Nat) (I : Nat → σ → Prop)
    (hs : ∀ k s, k < n → I k s → ∃ s', I (k + 1) s' ∧ BaseOk P lo sz H0 (E k s) (H k s) .normal (E (k + 1) s') (H (k + 1) s') (fun Q act w => a.wp P Q act w))
    (he : ∀ s, I n s → BaseRounds P lo sz H0 a (E n s) (H n s) ex (e' s) (H' s)) : ∀ (j k : Nat) (s : σ), k + j = n → I k s → ∃ s', I n s' ∧ BaseRounds P lo sz H0 a (E k s) (H k s) ex (e' s') (H' s')
  | 0, k, s, hk, hi => by
    have : k = n := by omega
    subst this
    exact ⟨s, hi, he s hi⟩
  | j + 1, k, s, hk, hi => by
    obtain ⟨s1, h1, h2⟩ := hs k s (by omega) hi
    obtain ⟨s', h3, h4⟩ := base_while n I hs he j (k + 1) s1 (by omega) h1
    exact ⟨s', h3, base_step h2 h4⟩
theorem inns_app {n : Nat} : ∀ {a b : List Value}, inns n a = true → inns n b = true → inns n (a ++ b) = true
  | [], b, _, h => h
  | v :: r, b, ha, hb => by
    simp only [inns, Bool.and_eq_true] at ha
    simp only [List.cons_append, inns, ha.1, inns_app ha.2 hb, Bool.and_self]
theorem allOne_app : ∀ {a b : List Value}, allOne a = true → allOne b = true → allOne (a ++ b) = true
  | [], b, _, h => h
  | v :: r, b, ha, hb => by
    simp only [allOne, Bool.and_eq_true] at ha
    simp only [List.cons_append, allOne, ha.1, allOne_app ha.2 hb, Bool.and_self]
theorem renOs_row {p : Nat → Option Nat} {b k sz : Nat} {cs : List Value} {D D2 : Objs} (hk : p b = some k) (hf : inns 0 cs = true) (hD : renOs p D = some D2) : renOs p ((b, .cells cs sz) :: D) = some ((k, .cells cs sz) :: D2) := by
  simp only [renOs, renO, hk, hD, rens_flat hf, Option.bind_some]
def Row (m : Nat) (os : List Value) : Prop := os.length = m * 4 ∧ inns 0 os = true ∧ allOne os = true
theorem Row.app {m j : Nat} {os ns : List Value} (h : Row m os) (g : Row j ns) : Row (m + j) (os ++ ns) := by
  refine ⟨?_, inns_app h.2.1 g.2.1, allOne_app h.2.2 g.2.2⟩
  rw [List.length_append, h.1, g.1, Nat.add_mul]
theorem El.row (x : El) : Row 1 x.cs := ⟨rfl, rfl, rfl⟩
def cellsOf (xs : List El) : List Value := xs.flatMap El.cs
theorem cells_app (a b : List El) : cellsOf (a ++ b) = cellsOf a ++ cellsOf b := by unfold cellsOf; rw [List.flatMap_append]
theorem row_cells : ∀ (xs : List El), Row xs.length (cellsOf xs)
  | [] => ⟨rfl, rfl, rfl⟩
  | x :: r => by
    have := (El.row x).app (row_cells r)
    rw [Nat.add_comm] at this
    exact this
theorem els_cells : ∀ (xs : List El) (i : Nat) (x : El), xs[i]? = some x → ∃ rest, (cellsOf xs).drop (i * 4) = x.cs ++ rest
  | [], i, x, h => by simp at h
  | y :: r, 0, x, h => by
    simp only [List.getElem?_cons_zero, Option.some.injEq] at h
    subst h
    exact ⟨cellsOf r, rfl⟩
  | y :: r, i + 1, x, h => by
    simp only [List.getElem?_cons_succ] at h
    obtain ⟨rest, e⟩ := els_cells r i x h
    refine ⟨rest, ?_⟩
    show (y.cs ++ cellsOf r).drop ((i + 1) * 4) = _
    rw [show (i + 1) * 4 = y.cs.length + i * 4 by show _ = 4 + i * 4; omega, List.drop_append, List.drop_eq_nil_of_le (by omega), List.nil_append, Nat.add_sub_cancel_left]
    exact e
theorem elsAt_cells (xs : List El) : ElsAt (cellsOf xs) 0 xs := fun i x h => by rw [Nat.zero_add]; exact els_cells xs i x h

/-! ### Elements of one kind -/
abbrev GS := ∀ R : Type, List Value → Nat → (Nat → Nat → Nat → Nat → Option R) → Option R
def gKd (kind : Int) (g : GS) : Ld := fun R cs off k => g R cs off fun a1 a2 s1 s2 => k (elV kind a1 a2 s1 s2 0)
def rKd (kind : Int) : GS := fun R cs off k => rEl R cs off fun kd a1 a2 s1 s2 p => bif decide (kd = kind) && Nat.beq p 0 then k a1 a2 s1 s2 else none
theorem ldKd_ok (kind : Int) : LdOk Tryz.prog 66 (gKd kind (rKd kind)) := fun R cs off k r hr => by
  unfold gKd rKd at hr
  obtain ⟨v, h1, h2⟩ := ldEl_ok more66 R cs off (fun v => match v with | .agg ⟨[.int .u8 kd, .complex .f64 a1 a2, .complex .f64 s1 s2, .float .f64 p]⟩ => bif decide (kd = kind) && Nat.beq p 0 then k (elV kind a1 a2 s1 s2 0) else none | _ => none) r (by exact hr)
  split at h1
  · rename_i kd a1 a2 s1 s2 p
    cases hb : (decide (kd = kind) && Nat.beq p 0) with
    | false => rw [hb] at h1; cases h1
    | true =>
      rw [hb] at h1
      simp only [Bool.and_eq_true, decide_eq_true_eq] at hb
      obtain ⟨e1, e2⟩ := hb
      have e2 := Nat.eq_of_beq_eq_true e2
      subst e1 e2
      exact ⟨_, h1, h2⟩
  · cases h1
theorem rKd_at {cs : List Value} {o : Nat} {xs : List El} (h : ElsAt cs o xs) {i : Nat} {x : El} (hx : xs[i]? = some x) {kind : Int} (hk : x.kind = kind) (hp : x.p = 0) (R : Type) (k : Nat → Nat → Nat → Nat → Option R) : rKd kind R cs (o + i * 4) k = k x.a1 x.a2 x.s1 x.s2 := by
  unfold rKd
  rw [rEl_at h hx, hk, hp, decide_eq_true rfl]
  rfl

/-! ### Sides, told at once -/
abbrev KAb := ∀ R : Type, Nat → Nat → Nat → Nat → Nat → Nat → Nat → Nat → Nat → Option R → Option R
def sAb (g : KAb) : Sum := fun R args k => match args with
  | [.agg ⟨[.complex .f64 x1 x2, .complex .f64 y1 y2, .complex .f64 c1 c2, .float .f64 r]⟩, .agg ⟨[.int .u8 kind, .complex .f64 a1 a2, .complex .f64 s1 s2, .float .f64 p]⟩] => g R x1 x2 y1 y2 c1 c2 r a1 a2 (k (.bool true))
  | _ => none
def aboveB (cj : KCC) (sub mul : KCCC) : KAb := fun R x1 x2 y1 y2 c1 c2 r a1 a2 k => cj R y1 y2 fun u1 u2 => sub R a1 a2 x1 x2 fun d1 d2 => mul R u1 u2 d1 d2 fun _ im => bif gtF im 0 then k else none
def outB (sub : KCCC) (len : KCF) : KAb := fun R x1 x2 y1 y2 c1 c2 r a1 a2 k => sub R a1 a2 c1 c2 fun d1 d2 => len R d1 d2 fun l => bif gtF l r then k else none
theorem z_above (cj : KCC) (sub mul : KCCC) (R : Type) (x1 x2 y1 y2 c1 c2 r a1 a2 s1 s2 p : Nat) (kind : Int) (k : Value → Option R) :
    evFn (cx Tryz.prog [(124, sCC cj), (21, sCCC sub), (22, sCCC mul)]) 60 127 [.agg ⟨[.complex .f64 x1 x2, .complex .f64 y1 y2, .complex .f64 c1 c2, .float .f64 r]⟩, .agg ⟨[.int .u8 kind, .complex .f64 a1 a2, .complex .f64 s1 s2, .float .f64 p]⟩] k =
    cj R y1 y2 fun u1 u2 => sub R a1 a2 x1 x2 fun d1 d2 => mul R u1 u2 d1 d2 fun _ im => forceB (gtF im 0) fun t => k (.bool t) := by kernel_rfl
theorem z_outside (sub : KCCC) (len : KCF) (R : Type) (x1 x2 y1 y2 c1 c2 r a1 a2 s1 s2 p : Nat) (kind : Int) (k : Value → Option R) :
    evFn (cx Tryz.prog [(21, sCCC sub), (38, sCF len)]) 60 130 [.agg ⟨[.complex .f64 x1 x2, .complex .f64 y1 y2, .complex .f64 c1 c2, .float .f64 r]⟩, .agg ⟨[.int .u8 kind, .complex .f64 a1 a2, .complex .f64 s1 s2, .float .f64 p]⟩] k =
    sub R a1 a2 c1 c2 fun d1 d2 => len R d1 d2 fun l => forceB (gtF l r) fun t => k (.bool t) := by kernel_rfl
theorem h127 : Has Tryz.prog 127 := ⟨Tryz.f127, _, Tryz.func127, by kernel_rfl, rfl⟩
theorem h130 : Has Tryz.prog 130 := ⟨Tryz.f130, _, Tryz.func130, by kernel_rfl, rfl⟩
theorem h124i : Has Tryz.prog 124 := ⟨Tryz.f124, _, Tryz.func124, by kernel_rfl, rfl⟩
theorem z_conj (R : Type) (a b : Nat) (k : Value → Option R) : evFn (cx Tryz.prog []) 60 124 [.complex .f64 a b] k = conjK R a b fun x y => k (.complex .f64 x y) := by kernel_rfl
theorem k124i : SumOk Tryz.prog 124 (sCC conjK) := sumOk_of zm_ok .nil (n := 60) fun R args k r hr => by
  unfold sCC at hr; split at hr
  · exact ⟨rfl, (z_conj R _ _ k).trans hr⟩
  · cases hr
theorem bif_some {R : Type} {b : Bool} {k : Option R} {r : R} (h : (bif b then k else none) = some r) : b = true ∧ k = some r := by
  cases b with
  | true => exact ⟨rfl, h⟩
  | false => cases h
theorem k127 : SumOk Tryz.prog 127 (sAb (aboveB conjK subK mulK)) := sumOk_of zm_ok (.cons k124i h124i (.cons k21 h21 (.cons k22 h22 .nil))) (n := 60) fun R args k r hr => by
  unfold sAb at hr; split at hr
  · rename_i x1 x2 y1 y2 c1 c2 rr kind a1 a2 s1 s2 p
    refine ⟨rfl, (z_above conjK subK mulK R x1 x2 y1 y2 c1 c2 rr a1 a2 s1 s2 p kind k).trans ?_⟩
    unfold aboveB at hr
    unfold conjK mulK subK at *
    simp only [forceN_eq] at *
    obtain ⟨d1, e1, hr⟩ := bindF_some hr
    obtain ⟨d2, e2, hr⟩ := bindF_some hr
    obtain ⟨m1, e3, hr⟩ := bindF_some hr
    obtain ⟨m2, e4, hr⟩ := bindF_some hr
    obtain ⟨m3, e5, hr⟩ := bindF_some hr
    obtain ⟨m4, e6, hr⟩ := bindF_some hr
    obtain ⟨m5, e7, hr⟩ := bindF_some hr
    obtain ⟨m6, e8, hr⟩ := bindF_some hr
    obtain ⟨g1, g2⟩ := bif_some hr
    simp only [bindF, e1, e2, e3, e4, e5, e6, e7, e8, Option.bind_some, forceN_eq, g1, forceB_eq]
    exact g2
  · cases hr
def onlyTI {R : Type} (k : Value → Option R) : Value → Option R := fun v => match v with | .bool true => k (.bool true) | _ => none
theorem onlyTI_some {R : Type} {k : Value → Option R} {v : Value} {r : R} (h : onlyTI k v = some r) : k v = some r := by
  unfold onlyTI at h; split at h
  · exact h
  · cases h
def onlyZI {R : Type} (k : Value → Option R) : Value → Option R := fun v => match v with | .int .i64 e => (match decide (e = 0) with | true => k (.int .i64 0) | false => none) | _ => none
theorem onlyZI_some {R : Type} {k : Value → Option R} {v : Value} {r : R} (h : onlyZI k v = some r) : k v = some r := by
  unfold onlyZI at h; split at h
  · rename_i e
    by_cases he : e = 0
    · subst he; exact h
    · rw [decide_eq_false he] at h; cases h
  · cases h
theorem yesI_onlyZI {R : Type} (k : Value → Option R) : (fun e : Int => onlyZI k (.int .i64 e)) = yesI (k (.int .i64 0)) := by
  rfl
def sAB (g : ∀ R : Type, Nat → Nat → Nat → Nat → Nat → Nat → Nat → Nat → Nat → (Bool → Option R) → Option R) : Sum := fun R args k => match args with
  | [.agg ⟨[.complex .f64 x1 x2, .complex .f64 y1 y2, .complex .f64 c1 c2, .float .f64 r]⟩, .agg ⟨[.int .u8 kind, .complex .f64 a1 a2, .complex .f64 s1 s2, .float .f64 p]⟩] => g R x1 x2 y1 y2 c1 c2 r a1 a2 fun t => k (.bool t)
  | _ => none
theorem k130 : SumOk Tryz.prog 130 (sAb (outB subK lengthK)) := SumOk.weak (s1 := sAB fun R x1 x2 y1 y2 c1 c2 r a1 a2 k => subK R a1 a2 c1 c2 fun d1 d2 => lengthK R d1 d2 fun l => forceB (gtF l r) k)
    (sumOk_of zm_ok (.cons k21 h21 (.cons k38 h38 .nil)) (n := 60) fun R args k r hr => by
      unfold sAB at hr; split at hr
      · rename_i x1 x2 y1 y2 c1 c2 rr kind a1 a2 s1 s2 p
        exact ⟨rfl, (z_outside subK lengthK R x1 x2 y1 y2 c1 c2 rr a1 a2 s1 s2 p kind k).trans hr⟩
      · cases hr)
    fun R args k r hr => by
      unfold sAb at hr
      split at hr
      · refine ⟨onlyTI k, ?_, fun v hv => onlyTI_some hv⟩
        unfold sAB
        simp only
        unfold outB at hr
        rw [← hr]
        congr 1
      · cases hr
/-- no error, told at once -/
theorem k199i : SumOk Tryz.prog 199 (sEI1 (eiT checkK)) := k199.weak fun R args k r hr => by
  unfold sEI1 at hr
  split at hr
  · refine ⟨onlyZI k, ?_, fun v hv => onlyZI_some hv⟩
    unfold sEI
    simp only
    rw [yesI_onlyZI]
    exact hr
  · cases hr
theorem ap_first {R : Type} {fx : List El} {k : List Value → Option R} (h0 : 0 < fx.length) (h1 : fx.length < 1000) : rAp Tryz.prog R 55 [] 0 0 (cellsOf fx) 0 fx.length k = k (cellsOf fx) := by
  have e : ((cellsOf fx).drop 0).take (fx.length * 4) = cellsOf fx := by rw [List.drop_zero, List.take_of_length_le (by rw [(row_cells fx).1]; exact Nat.le_refl _)]
  rw [ap55_ok (n := 0) rfl (by rw [e]; exact (row_cells fx).1) (by rw [e]; exact (row_cells fx).2.2) h0 (by omega), e, List.nil_append]
theorem m125_body : Tryz.f125.body = some (codeOf 125) := by kernel_rfl
end Go.Vm
