/- The program's broken powers are what is told of them; no conditions. The program's whole powers are what is told of them; no conditions. -/
import Derived.Test.YtnbpfafngidimaaVmZY4
import Derived.Test.YtnbpfafngidimaaVmKV
namespace Go.Vm
open Go.Proofs
set_option linter.unusedVariables false
set_option maxRecDepth 1000000
theorem y_whole (tr : KFF) (R : Type) p (k : Value → Option R) : evFn (cxf fiReal Try.prog [] [(37, sFF tr)]) 60 22 [.float .f64 p] k = wholeB tr R p fun t => k (.bool t) := by kernel_rfl
theorem y_small (R : Type) x y (k : Value → Option R) : evFn (cx Try.prog []) 60 6 [gz x y] k = smM R x y fun t => k (.bool t) := by kernel_rfl
theorem y_fit (wi : KFFB) (R : Type) x (k : Value → Option R) : evFn (cx Try.prog [(20, sFFB wi)]) 60 108 [.float .f64 x] k = wi R x 4697254411347427328 (fun t => forceB t fun t => k (.bool t)) := by kernel_rfl
theorem y_fwhole (tr : KFF) (R : Type) p (k : Value → Option R) : evFn (cxf fiReal Try.prog [] [(107, sFF tr)]) 60 103 [.float .f64 p] k = tr R p fun y => k (.float .f64 y) := by kernel_rfl
theorem y_from (R : Type) n (k : Value → Option R) : evFn (cxf fiReal Try.prog [] [(25, xFrom)]) 60 41 [.int .u64 n] k = forceN n.toNat fun x => k (.float .f64 x) := by kernel_rfl
theorem y_w0 (mul : KCCC) (R : Type) a b (k : Value → Option R) : evFn (cx Try.prog [(15, sCCC mul)]) 60 64 [.complex .f64 a b, .int .i64 0] k = k (.complex .f64 4607182418800017408 0) := by kernel_rfl
theorem y_w2 (mul : KCCC) (R : Type) a b (k : Value → Option R) : evFn (cx Try.prog [(15, sCCC mul)]) 60 64 [.complex .f64 a b, .int .i64 2] k = wsteps mul a b (wbits 2) a b fun x y => k (.complex .f64 x y) := by kernel_rfl
theorem y_w3 (mul : KCCC) (R : Type) a b (k : Value → Option R) : evFn (cx Try.prog [(15, sCCC mul)]) 60 64 [.complex .f64 a b, .int .i64 3] k = wsteps mul a b (wbits 3) a b fun x y => k (.complex .f64 x y) := by kernel_rfl
theorem y_w4 (mul : KCCC) (R : Type) a b (k : Value → Option R) : evFn (cx Try.prog [(15, sCCC mul)]) 60 64 [.complex .f64 a b, .int .i64 4] k = wsteps mul a b (wbits 4) a b fun x y => k (.complex .f64 x y) := by kernel_rfl
theorem y_w6 (mul : KCCC) (R : Type) a b (k : Value → Option R) : evFn (cx Try.prog [(15, sCCC mul)]) 60 64 [.complex .f64 a b, .int .i64 6] k = wsteps mul a b (wbits 6) a b fun x y => k (.complex .f64 x y) := by kernel_rfl
theorem y_w7 (mul : KCCC) (R : Type) a b (k : Value → Option R) : evFn (cx Try.prog [(15, sCCC mul)]) 60 64 [.complex .f64 a b, .int .i64 7] k = wsteps mul a b (wbits 7) a b fun x y => k (.complex .f64 x y) := by kernel_rfl
theorem y_w8 (mul : KCCC) (R : Type) a b (k : Value → Option R) : evFn (cx Try.prog [(15, sCCC mul)]) 60 64 [.complex .f64 a b, .int .i64 8] k = wsteps mul a b (wbits 8) a b fun x y => k (.complex .f64 x y) := by kernel_rfl
theorem y_w9 (mul : KCCC) (R : Type) a b (k : Value → Option R) : evFn (cx Try.prog [(15, sCCC mul)]) 60 64 [.complex .f64 a b, .int .i64 9] k = wsteps mul a b (wbits 9) a b fun x y => k (.complex .f64 x y) := by kernel_rfl

/-! ### and the contracts -/
theorem h_whole : Has Try.prog 22 := ⟨Try.f22, _, Try.func22, by kernel_rfl, rfl⟩
theorem eTrunc : ExtOk Try.prog 37 (sFF (roundK .zero)) := fun R args k r hr => e37 R args k r (by
  unfold sFF at hr; split at hr
  · exact hr
  · cases hr)
theorem eEven : ExtOk Try.prog 107 (sFF (roundK .even)) := fun R args k r hr => e107 R args k r (by
  unfold sFF at hr; split at hr
  · exact hr
  · cases hr)
theorem k_whole : SumOk Try.prog 22 (sFB wholeK) := sumOk_exts (l := []) (es := [(37, sFF (roundK .zero))]) (n := 60) zm_ok .nil (exts_ok (.cons eTrunc .nil)) fun R args k r hr => by
  unfold sFB at hr; split at hr
  · simp only [forceB_eq] at hr
    exact ⟨rfl, by rw [y_whole]; exact hr⟩
  · cases hr
theorem h_small : Has Try.prog 6 := ⟨Try.f6, _, Try.func6, by kernel_rfl, rfl⟩
theorem h_of : Has Try.prog 5 := ⟨Try.f5, _, Try.func5, by kernel_rfl, rfl⟩
theorem h_fit : Has Try.prog 108 := ⟨Try.f108, _, Try.func108, by kernel_rfl, rfl⟩
theorem h_fwhole : Has Try.prog 103 := ⟨Try.f103, _, Try.func103, by kernel_rfl, rfl⟩
theorem h_from : Has Try.prog 41 := ⟨Try.f41, _, Try.func41, by kernel_rfl, rfl⟩
theorem h_steps : Has Try.prog 106 := ⟨Try.f106, _, Try.func106, by kernel_rfl, rfl⟩
theorem h_less : Has Try.prog 109 := ⟨Try.f109, _, Try.func109, by kernel_rfl, rfl⟩
theorem h_quarter : Has Try.prog 105 := ⟨Try.f105, _, Try.func105, by kernel_rfl, rfl⟩
theorem h_turn : Has Try.prog 102 := ⟨Try.f102, _, Try.func102, by kernel_rfl, rfl⟩
theorem h_rising : Has Try.prog 104 := ⟨Try.f104, _, Try.func104, by kernel_rfl, rfl⟩
theorem h_exp : Has Try.prog 101 := ⟨Try.f101, _, Try.func101, by kernel_rfl, rfl⟩
theorem h_cexp : Has Try.prog 100 := ⟨Try.f100, _, Try.func100, by kernel_rfl, rfl⟩
theorem h_real : Has Try.prog 99 := ⟨Try.f99, _, Try.func99, by kernel_rfl, rfl⟩
theorem h_pow : Has Try.prog 64 := ⟨Try.f64, _, Try.func64, by kernel_rfl, rfl⟩
theorem h_check : Has Try.prog 7 := ⟨Try.f7, _, Try.func7, by kernel_rfl, rfl⟩
theorem h_same : Has Try.prog 13 := ⟨Try.f13, _, Try.func13, by kernel_rfl, rfl⟩
theorem h_moved : Has Try.prog 8 := ⟨Try.f8, _, Try.func8, by kernel_rfl, rfl⟩
theorem h_pot : Has Try.prog 10 := ⟨Try.f10, _, Try.func10, by kernel_rfl, rfl⟩
theorem h_spd : Has Try.prog 11 := ⟨Try.f11, _, Try.func11, by kernel_rfl, rfl⟩
theorem h_slp : Has Try.prog 12 := ⟨Try.f12, _, Try.func12, by kernel_rfl, rfl⟩
theorem h_awake : Has Try.prog 4 := ⟨Try.f4, _, Try.func4, by kernel_rfl, rfl⟩
theorem k_small : SumOk Try.prog 6 (sSm smM) := sumOk_of zm_ok .nil (n := 60) fun R args k r hr => by
  unfold sSm at hr; split at hr
  · simp only [forceB_eq] at hr
    exact ⟨rfl, (y_small R _ _ k).trans hr⟩
  · cases hr
theorem k_of : SumOk Try.prog 5 (sOf (fun R x y k => ofK x y k)) := ok_sOf zm_ok .nil y_of
theorem k_fit : SumOk Try.prog 108 (sFB fitK) := sumOk_of zm_ok (.cons k20 h20 .nil) (n := 60) fun R args k r hr => by
  unfold sFB at hr; split at hr
  · exact ⟨rfl, (y_fit withinK R _ k).trans (by unfold fitK at hr; simpa only [forceB_eq] using hr)⟩
  · cases hr
theorem k_fwhole : SumOk Try.prog 103 (sFF (roundK .even)) := sumOk_exts (l := []) (es := [(107, sFF (roundK .even))]) (n := 60) zm_ok .nil (exts_ok (.cons eEven .nil)) fun R args k r hr => by
  unfold sFF at hr; split at hr
  · exact ⟨rfl, (y_fwhole _ R _ k).trans hr⟩
  · cases hr
theorem k_from : SumOk Try.prog 41 xFrom := sumOk_exts (l := []) (es := [(25, xFrom)]) (n := 60) zm_ok .nil (exts_ok (.cons e25 .nil)) fun R args k r hr => by
  unfold xFrom at hr; split at hr
  · exact ⟨rfl, (y_from R _ k).trans hr⟩
  · cases hr
theorem k_steps : SumOk Try.prog 106 (sFF2 stepsK) := sumOk_of zm_ok .nil (n := 60) fun R args k r hr => by
  unfold sFF2 at hr; split at hr
  · exact ⟨rfl, (y_steps R _ k).trans hr⟩
  · cases hr
theorem k_less : SumOk Try.prog 109 (sLess lessK) := sumOk_of zm_ok (.cons k_from h_from .nil) (n := 60) fun R args k r hr => by
  unfold sLess at hr; split at hr
  · rename_i x m t
    cases ht : Nat.beq t 4607182418800017408 with
    | false => rw [ht] at hr; cases hr
    | true =>
      rw [ht] at hr
      have := Nat.eq_of_beq_eq_true ht
      subst this
      exact ⟨rfl, (y_less R _ _ k).trans hr⟩
  · cases hr
theorem k_quarter : SumOk Try.prog 105 (sFFI quarterK) := ok_sFFI zm_ok (.cons k_fit h_fit (.cons k_fwhole h_fwhole (.cons k_less h_less (.cons k70 h70 (.cons k_from h_from .nil))))) (y_quarter fiReal fitK (roundK .even) lessK)
theorem k_turn : SumOk Try.prog 102 (sFF2 turnK) := sumOk_of zm_ok (.cons k_quarter h_quarter (.cons k_steps h_steps .nil)) (n := 60) fun R args k r hr => by
  unfold sFF2 at hr; split at hr
  · exact ⟨rfl, (y_turn quarterK stepsK R _ k).trans hr⟩
  · cases hr
theorem k_rising : SumOk Try.prog 104 (sRising risingK) := sumOk_of zm_ok .nil (n := 60) fun R args k r hr => by
  unfold sRising at hr; split at hr
  · rename_i r0 j
    cases hj : (j == 1) with
    | false => rw [hj] at hr; cases hr
    | true =>
      rw [hj] at hr
      have : j = 1 := by simpa using hj
      subst this
      exact ⟨rfl, (y_rising R _ k).trans hr⟩
  · cases hr
theorem k_exp : SumOk Try.prog 101 (sFF expK) := ok_sFF zm_ok (.cons k_fwhole h_fwhole (.cons k_rising h_rising (.cons k77 h77 (.cons k71'' h71 .nil)))) (y_exp fiReal (roundK .even) risingK scaleK)
theorem k_cexp : SumOk Try.prog 100 (sCC cexpK) := ok_sCC zm_ok (.cons k_exp h_exp (.cons k_turn h_turn .nil)) (y_cexp expK turnK)
theorem k_real : SumOk Try.prog 99 (sCFC realK) := ok_sCFC zm_ok (.cons k61 h61 (.cons k36 h36 (.cons k_cexp h_cexp .nil))) (y_real powLogK sclK cexpK)
theorem k_check : SumOk Try.prog 7 (sEI checkE) := sumOk_of zm_ok (.cons k19 h19 (.cons k20 h20 (.cons k21 h21 (.cons k_whole h_whole .nil)))) (n := 60) fun R args k r hr => by
  unfold sEI at hr; split at hr
  · exact ⟨rfl, (z_echeck placeK withinK noughtK wholeK R _ _ _ _ _ _ k).trans hr⟩
  · cases hr
theorem k_same : SumOk Try.prog 13 (sCCB sameB) := sumOk_exts (l := []) (es := [(26, xBits)]) (n := 60) zm_ok .nil (exts_ok (.cons e26 .nil)) fun R args k r hr => by
  unfold sCCB at hr; split at hr
  · simp only [forceB_eq] at hr
    exact ⟨rfl, (y_same R _ _ _ _ k).trans hr⟩
  · cases hr
theorem k_whY : SumOk Try.prog 22 (sWhY wyK) := k_whole.weak fun R args k r hr => by
  refine ⟨fun v => match v with | .bool true => k v | _ => none, ?_, fun v hv => ?_⟩
  · unfold sWhY at hr; split at hr
    · unfold sFB
      simp only
      unfold wyK at hr
      rw [← hr]
      first
        | done
        | (congr 1; funext t; rw [forceB_eq]; cases t <;> rfl)
        | (congr 1)
    · cases hr
  · simp only at hv
    split at hv
    · exact hv
    · cases hv
theorem k_whN : SumOk Try.prog 22 (sWhN wnK) := k_whole.weak fun R args k r hr => by
  refine ⟨fun v => match v with | .bool false => k v | _ => none, ?_, fun v hv => ?_⟩
  · unfold sWhN at hr; split at hr
    · unfold sFB
      simp only
      unfold wnK at hr
      rw [← hr]
      first
        | done
        | (congr 1; funext t; rw [forceB_eq]; cases t <;> rfl)
        | (congr 1)
    · cases hr
  · simp only at hv
    split at hv
    · exact hv
    · cases hv
end Go.Vm
namespace Go.Vm
open Go.Proofs
set_option linter.unusedVariables false
set_option maxRecDepth 1000000

theorem k_check2 : SumOk Try.prog 7 (sEI (checkB placeK withinK noughtK wholeK)) := k_check

/-! ### Whole powers -/
theorem k_pow : SumOk Try.prog 64 (sKW wpowK) := sumOk_of zm_ok (.cons k15 h15 .nil) (n := 60) fun R args k r hr => by
  unfold sKW at hr; split at hr
  · rename_i a b n
    unfold wpowK at hr
    cases h0 : (n == 0) with
    | true =>
      have e : n = 0 := by simpa using h0
      subst e
      exact ⟨rfl, (y_w0 mulK R a b k).trans hr⟩
    | false =>
      rw [h0] at hr
      simp only [cond_false] at hr
      cases h1 : (n == 1) with
      | true =>
        have e : n = 1 := by simpa using h1
        subst e
        exact ⟨rfl, (y_w1 mulK R a b k).trans hr⟩
      | false =>
        rw [h1] at hr
        simp only [cond_false] at hr
        cases h2 : (n == 2) with
        | true =>
          have e : n = 2 := by simpa using h2
          subst e
          exact ⟨rfl, (y_w2 mulK R a b k).trans hr⟩
        | false =>
          rw [h2] at hr
          simp only [cond_false] at hr
          cases h3 : (n == 3) with
          | true =>
            have e : n = 3 := by simpa using h3
            subst e
            exact ⟨rfl, (y_w3 mulK R a b k).trans hr⟩
          | false =>
            rw [h3] at hr
            simp only [cond_false] at hr
            cases h4 : (n == 4) with
            | true =>
              have e : n = 4 := by simpa using h4
              subst e
              exact ⟨rfl, (y_w4 mulK R a b k).trans hr⟩
            | false =>
              rw [h4] at hr
              simp only [cond_false] at hr
              cases h5 : (n == 5) with
              | true =>
                have e : n = 5 := by simpa using h5
                subst e
                exact ⟨rfl, (y_w5 mulK R a b k).trans hr⟩
              | false =>
                rw [h5] at hr
                simp only [cond_false] at hr
                cases h6 : (n == 6) with
                | true =>
                  have e : n = 6 := by simpa using h6
                  subst e
                  exact ⟨rfl, (y_w6 mulK R a b k).trans hr⟩
                | false =>
                  rw [h6] at hr
                  simp only [cond_false] at hr
                  cases h7 : (n == 7) with
                  | true =>
                    have e : n = 7 := by simpa using h7
                    subst e
                    exact ⟨rfl, (y_w7 mulK R a b k).trans hr⟩
                  | false =>
                    rw [h7] at hr
                    simp only [cond_false] at hr
                    cases h8 : (n == 8) with
                    | true =>
                      have e : n = 8 := by simpa using h8
                      subst e
                      exact ⟨rfl, (y_w8 mulK R a b k).trans hr⟩
                    | false =>
                      rw [h8] at hr
                      simp only [cond_false] at hr
                      cases h9 : (n == 9) with
                      | true =>
                        have e : n = 9 := by simpa using h9
                        subst e
                        exact ⟨rfl, (y_w9 mulK R a b k).trans hr⟩
                      | false =>
                        rw [h9] at hr
                        simp only [cond_false] at hr
                        cases h10 : (n == 10) with
                        | true =>
                          have e : n = 10 := by simpa using h10
                          subst e
                          exact ⟨rfl, (y_w10 mulK R a b k).trans hr⟩
                        | false =>
                          rw [h10] at hr
                          simp only [cond_false] at hr
                          cases hr
  · cases hr

/-! ### Methods -/
theorem m_speed_59 (v : Value) : calm Try.prog (method (Try.prog.types.size + Made.depth) 59 v "eddy/element.speed") = some (60, v) := by kernel_rfl
theorem m_speed_61 (v : Value) : calm Try.prog (method (Try.prog.types.size + Made.depth) 61 v "eddy/element.speed") = some (94, v) := by kernel_rfl
theorem m_speed_63 (v : Value) : calm Try.prog (method (Try.prog.types.size + Made.depth) 63 v "eddy/element.speed") = some (98, v) := by kernel_rfl
theorem m_speed_65 (v : Value) : calm Try.prog (method (Try.prog.types.size + Made.depth) 65 v "eddy/element.speed") = some (112, v) := by kernel_rfl
theorem m_speed_69 (v : Value) : calm Try.prog (method (Try.prog.types.size + Made.depth) 69 v "eddy/element.speed") = some (115, v) := by kernel_rfl
theorem m_potential_59 (v : Value) : calm Try.prog (method (Try.prog.types.size + Made.depth) 59 v "eddy/element.potential") = some (58, v) := by kernel_rfl
theorem m_potential_61 (v : Value) : calm Try.prog (method (Try.prog.types.size + Made.depth) 61 v "eddy/element.potential") = some (92, v) := by kernel_rfl
theorem m_potential_63 (v : Value) : calm Try.prog (method (Try.prog.types.size + Made.depth) 63 v "eddy/element.potential") = some (96, v) := by kernel_rfl
theorem m_potential_65 (v : Value) : calm Try.prog (method (Try.prog.types.size + Made.depth) 65 v "eddy/element.potential") = some (110, v) := by kernel_rfl
theorem m_potential_69 (v : Value) : calm Try.prog (method (Try.prog.types.size + Made.depth) 69 v "eddy/element.potential") = some (113, v) := by kernel_rfl
theorem m_slope_59 (v : Value) : calm Try.prog (method (Try.prog.types.size + Made.depth) 59 v "eddy/element.slope") = some (59, v) := by kernel_rfl
theorem m_slope_61 (v : Value) : calm Try.prog (method (Try.prog.types.size + Made.depth) 61 v "eddy/element.slope") = some (93, v) := by kernel_rfl
theorem m_slope_63 (v : Value) : calm Try.prog (method (Try.prog.types.size + Made.depth) 63 v "eddy/element.slope") = some (97, v) := by kernel_rfl
theorem m_slope_65 (v : Value) : calm Try.prog (method (Try.prog.types.size + Made.depth) 65 v "eddy/element.slope") = some (111, v) := by kernel_rfl
theorem m_slope_69 (v : Value) : calm Try.prog (method (Try.prog.types.size + Made.depth) 69 v "eddy/element.slope") = some (114, v) := by kernel_rfl
theorem pick5 {t f a1 a2 a3 a4 a5 b1 b2 b3 b4 b5 : Nat} (h : (bif Nat.beq t a1 then some b1 else bif Nat.beq t a2 then some b2 else bif Nat.beq t a3 then some b3 else bif Nat.beq t a4 then some b4 else bif Nat.beq t a5 then some b5 else none) = some f) :
    (t = a1 ∧ f = b1) ∨ (t = a2 ∧ f = b2) ∨ (t = a3 ∧ f = b3) ∨ (t = a4 ∧ f = b4) ∨ (t = a5 ∧ f = b5) := by
  cases h1 : Nat.beq t a1 with
  | true => rw [h1] at h; exact .inl ⟨Nat.eq_of_beq_eq_true h1, (Option.some.inj h).symm⟩
  | false =>
    rw [h1] at h; refine .inr ?_
    cases h1 : Nat.beq t a2 with
    | true => rw [h1] at h; exact .inl ⟨Nat.eq_of_beq_eq_true h1, (Option.some.inj h).symm⟩
    | false =>
      rw [h1] at h; refine .inr ?_
      cases h1 : Nat.beq t a3 with
      | true => rw [h1] at h; exact .inl ⟨Nat.eq_of_beq_eq_true h1, (Option.some.inj h).symm⟩
      | false =>
        rw [h1] at h; refine .inr ?_
        cases h1 : Nat.beq t a4 with
        | true => rw [h1] at h; exact .inl ⟨Nat.eq_of_beq_eq_true h1, (Option.some.inj h).symm⟩
        | false =>
          rw [h1] at h; refine .inr ?_
          cases h1 : Nat.beq t a5 with
          | true => rw [h1] at h; exact ⟨Nat.eq_of_beq_eq_true h1, (Option.some.inj h).symm⟩
          | false => rw [h1] at h; cases h
theorem methE_ok : ∀ t s f, methE t s = some f → ∀ v w, (method (Try.prog.types.size + Made.depth) t v s).run Try.prog w = .ok (f, v) w := by
  intro t s f h v w
  unfold methE at h
  cases h_speed : (s == "eddy/element.speed") with
  | true =>
    rw [h_speed] at h
    have e : s = "eddy/element.speed" := by simpa using h_speed
    subst e
    rcases pick5 h with ⟨rfl, rfl⟩ | ⟨rfl, rfl⟩ | ⟨rfl, rfl⟩ | ⟨rfl, rfl⟩ | ⟨rfl, rfl⟩
    · exact calm_run (m_speed_59 v) w
    · exact calm_run (m_speed_61 v) w
    · exact calm_run (m_speed_63 v) w
    · exact calm_run (m_speed_65 v) w
    · exact calm_run (m_speed_69 v) w
  | false =>
    rw [h_speed] at h
    simp only [cond_false] at h
    cases h_potential : (s == "eddy/element.potential") with
    | true =>
      rw [h_potential] at h
      have e : s = "eddy/element.potential" := by simpa using h_potential
      subst e
      rcases pick5 h with ⟨rfl, rfl⟩ | ⟨rfl, rfl⟩ | ⟨rfl, rfl⟩ | ⟨rfl, rfl⟩ | ⟨rfl, rfl⟩
      · exact calm_run (m_potential_59 v) w
      · exact calm_run (m_potential_61 v) w
      · exact calm_run (m_potential_63 v) w
      · exact calm_run (m_potential_65 v) w
      · exact calm_run (m_potential_69 v) w
    | false =>
      rw [h_potential] at h
      simp only [cond_false] at h
      cases h_slope : (s == "eddy/element.slope") with
      | true =>
        rw [h_slope] at h
        have e : s = "eddy/element.slope" := by simpa using h_slope
        subst e
        rcases pick5 h with ⟨rfl, rfl⟩ | ⟨rfl, rfl⟩ | ⟨rfl, rfl⟩ | ⟨rfl, rfl⟩ | ⟨rfl, rfl⟩
        · exact calm_run (m_slope_59 v) w
        · exact calm_run (m_slope_61 v) w
        · exact calm_run (m_slope_63 v) w
        · exact calm_run (m_slope_65 v) w
        · exact calm_run (m_slope_69 v) w
      | false =>
        rw [h_slope] at h
        simp only [cond_false] at h
        cases h
theorem cxv_ok {l : List (Nat × Sum)} (h : AllOk Try.prog l) : (cxv Try.prog l).Ok where
  fair := fiReal_fair
  sums := fun f g hg => tab_ok h f g hg
  exts := fun f g hg => by cases hg
  meths := methE_ok
  nan1 := fun f hf => by cases hf
  hs := fun f args H v h => by cases h
end Go.Vm
