/- The evaluator is right: what evFn tells of a call holds of each run of it; the program follows mixed orders. -/
import Derived.Test.YtnbpfafngidimaaGreatVmK
namespace Go.Vm
set_option linter.unusedVariables false
set_option linter.unusedSimpArgs false

/-! ### Results -/
def resE (P : Program) (e : Env) (H : AH) : List ResultVar → Option (List Value)
  | [] => some []
  | .tmp t :: r => (getE t e).bind fun v => (resE P e H r).bind fun vs => some (v :: vs)
  | .cell t ty :: r => (getE t e).bind fun p =>
    match p with
    | .pointer (some ad) =>
      match look ad.block H.objs with
      | some (.cells cs _) => loadE P ty cs ad.off fun v => (resE P e H r).bind fun vs => some (v :: vs)
      | _ => none
    | _ => none

def oneOf : List Value → Value
  | [v] => v
  | vs => .tuple ⟨vs⟩

def resSem (tmps : Array Value) : ResultVar → Sem Value
  | .tmp t => pure (tmps.getD t undef)
  | .cell a t => do loadVar t (← asAddr (tmps.getD a undef))

theorem resE_sound {P : Program} {e : Env} {H : AH} : ∀ {rs : List ResultVar} {vs : List Value}, resE P e H rs = some vs → ∀ {ρ : Map} {w : World} {tmps : Array Value}, Inv ρ H w → EnvRel ρ e tmps →
    ∃ vs', (rs.mapM (resSem tmps)).run P w = .ok vs' w ∧ VRels ρ vs vs'
  | [], vs, h, ρ, w, tmps, hi, he => by simp [resE] at h; subst h; exact ⟨[], rfl, .nil⟩
  | .tmp t :: r, vs, h, ρ, w, tmps, hi, he => by
    obtain ⟨v, h1, h⟩ := bind_some' h
    obtain ⟨us, h2, h⟩ := bind_some' h
    cases h
    obtain ⟨v', g1, g2⟩ := he t v h1
    obtain ⟨us', g3, g4⟩ := resE_sound h2 hi he
    exact ⟨v' :: us', by simp [List.mapM_cons, resSem, g1, g3], .cons g2 g4⟩
  | .cell t ty :: r, vs, h, ρ, w, tmps, hi, he => by
    obtain ⟨p, h1, h⟩ := bind_some' h
    split at h
    · rename_i ad
      split at h
      · rename_i cs sz hl
        obtain ⟨v, k1, k2⟩ := loadE_sound h
        obtain ⟨us, h2, k1⟩ := bind_some' k1
        cases k1
        obtain ⟨p', g1, g2⟩ := he t _ h1
        cases g2 with
        | @ptr kb off sp hk =>
          obtain ⟨s, e1, e2⟩ := hi.rel.obj _ _ (look_mem hl)
          rw [hk] at e1
          cases e1
          obtain ⟨v', g2, g3⟩ := k2 e2
          obtain ⟨us', g4, g5⟩ := resE_sound h2 hi he
          exact ⟨v' :: us', by simp [List.mapM_cons, resSem, g1, asAddr, g2, g4], .cons g3 g5⟩
      · cases h
    · cases h

theorem results_run {P : Program} {e : Env} {H : AH} {fn : Func} {vs : List Value} (h : resE P e H fn.results.toList = some vs) {ρ : Map} {w : World} {tmps : Array Value} (hi : Inv ρ H w) (he : EnvRel ρ e tmps) :
    ∃ v', (results fn tmps).run P w = .ok v' w ∧ VRel ρ (oneOf vs) v' := by
  obtain ⟨vs', h1, h2⟩ := resE_sound h hi he
  have hr : (fn.results.mapM (resSem tmps) : Sem (Array Value)).run P w = .ok ⟨vs'⟩ w := by
    rw [Array.mapM_eq_mapM_toList]
    simp [h1]
  have e0 : results fn tmps = (fn.results.mapM (resSem tmps) >>= fun vs => pure (if h : vs.size = 1 then vs[0] else .tuple vs)) := by
    unfold results
    have : (fun x : ResultVar => (match x with | .tmp t => pure (tmps.getD t undef) | .cell a t => do loadVar t (← asAddr (tmps.getD a undef)) : Sem Value)) = resSem tmps := by
      funext x; cases x <;> rfl
    rw [← this]
    rfl
  refine ⟨oneOf vs', ?_, ?_⟩
  · rw [e0, Sem.run_bind, hr]
    simp only [Result.andThen_ok, Sem.run_pure]
    congr 1
    match vs' with
    | [] => rfl
    | [v] => rfl
    | v :: u :: r => simp [oneOf]
  · cases h2 with
    | nil => exact .tuple .nil
    | cons a1 b1 =>
      cases b1 with
      | nil => exact a1
      | cons a2 b2 => exact .tuple (.cons a1 (.cons a2 b2))

def enumE (i : Nat) : List Value → Env
  | [] => []
  | v :: r => (i, v) :: enumE (i + 1) r

theorem enumE_get {t : Nat} {v : Value} : ∀ {l : List Value} {i : Nat}, getE t (enumE i l) = some v → i ≤ t ∧ l[t - i]? = some v
  | [], i, h => by simp [enumE, getE] at h
  | u :: r, i, h => by
    unfold enumE getE at h
    cases hb : Nat.beq i t with
    | true =>
      have := Nat.eq_of_beq_eq_true hb
      subst this
      rw [hb] at h
      cases h
      simp
    | false =>
      rw [hb] at h
      obtain ⟨h1, h2⟩ := enumE_get (l := r) h
      refine ⟨by omega, ?_⟩
      rw [show t - i = (t - (i + 1)) + 1 by omega]
      simpa using h2

theorem enum_rel {ρ : Map} {args args' : List Value} (h : VRels ρ args args') (n : Nat) : EnvRel ρ (enumE 0 args) (⟨args'⟩ ++ Array.replicate n undef) := fun t v hv => by
  obtain ⟨_, h1⟩ := enumE_get hv
  obtain ⟨v', h2, h3⟩ := h.get _ h1
  refine ⟨v', ?_, h3⟩
  simp only [Nat.sub_zero] at h2
  have hlt : t < args'.length := (List.getElem?_eq_some_iff.1 h2).1
  rw [Array.getElem?_append_left (by simpa using hlt)]
  simpa using h2

/-! ### The evaluator -/
def evCode {R : Type} (C : Cx) : Nat → Nat → Nat → Code → Env → AH → (Ex → Env → AH → Option R) → Option R
  | 0, _, _, _, _, _, _ => none
  | n + 1, lo, sz, c, e, H, k =>
    match c with
    | .skip => k .normal e H
    | .region _ ops draw =>
      let cal : Cal R := fun lo f fn c args H k => bif Nat.ble args.length fn.ntmps then
        evCode C n lo fn.ntmps c (enumE 0 args) H fun ex e' H' =>
          match ex with
          | .exit _ => none
          | _ => (resE C.P e' H' fn.results.toList).bind fun vs => k (oneOf vs) H'
        else none
      bif draw then bif drawOk ops then evDraw C cal lo sz ops ops.toList e H (fun e' H' => k .normal e' H') else none
      else evOps C cal lo sz ops ops.toList e H fun e' H' => k .normal e' H'
    | .seq a b => evCode C n lo sz a e H fun ex e' H' =>
        match ex with
        | .normal => evCode C n lo sz b e' H' k
        | ex => k ex e' H'
    | .cond x a b => (opd e x).bind fun v =>
        match v with
        | .bool t => bif t then evCode C n lo sz a e H k else evCode C n lo sz b e H k
        | _ => none
    | .block id a => evCode C n lo sz a e H fun ex e' H' =>
        match ex with
        | .exit j => bif Nat.beq j id then k .normal e' H' else k (.exit j) e' H'
        | ex => k ex e' H'
    | .loop a => evCode C n lo sz a (dedup 0 e) H fun ex e' H' =>
        match ex with
        | .normal => evCode C n lo sz (.loop a) e' H' k
        | ex => k ex e' H'
    | .exit id => k (.exit id) e H
    | .ret => k .ret e H
    | _ => none

def calAt {R : Type} (C : Cx) (n : Nat) : Cal R := fun lo f fn c args H k => bif Nat.ble args.length fn.ntmps then
  evCode C n lo fn.ntmps c (enumE 0 args) H fun ex e' H' =>
    match ex with
    | .exit _ => none
    | _ => (resE C.P e' H' fn.results.toList).bind fun vs => k (oneOf vs) H'
  else none

/-- What is shown of a code. -/
def CodeOk (P : Program) (lo sz : Nat) (e : Env) (H : AH) (ex : Ex) (e' : Env) (H' : AH) (W : (Exit → Act → World → Prop) → Act → World → Prop) : Prop :=
  ∀ {ρ : Map} {w : World} {a : Act}, Inv ρ H w → lo ≤ H.next → EnvRel ρ e a.tmps → a.tmps.size = sz →
    ∀ Q : Exit → Act → World → Prop, (∀ ρ' a' w', Next lo ρ H w ρ' H' w' → EnvRel ρ' e' a'.tmps → a'.tmps.size = sz → a'.defers = a.defers → Q ex.to a' w') → W Q a w

theorem cal_sound {R : Type} {C : Cx} {n : Nat}
    (ih : ∀ (lo sz : Nat) (c : Code) (e : Env) (H : AH) (k : Ex → Env → AH → Option R) (r : R), evCode C n lo sz c e H k = some r →
      ∃ ex e' H', k ex e' H' = some r ∧ CodeOk C.P lo sz e H ex e' H' (fun Q a w => c.wp C.P Q a w)) : CalOk C.P (calAt (R := R) C n) := by
  intro lo f fn c args H k r h hf hb
  unfold calAt at h
  cases hl : Nat.ble args.length fn.ntmps with
  | false => rw [hl] at h; cases h
  | true =>
    rw [hl] at h
    simp only [cond_true] at h
    obtain ⟨ex, e', H', h1, h2⟩ := ih _ _ _ _ _ _ _ h
    have hex : ∃ vs, resE C.P e' H' fn.results.toList = some vs ∧ k (oneOf vs) H' = some r ∧ (ex = .normal ∨ ex = .ret) := by
      cases ex with
      | exit _ => cases h1
      | normal => obtain ⟨vs, g1, g2⟩ := bind_some' h1; exact ⟨vs, g1, g2, .inl rfl⟩
      | ret => obtain ⟨vs, g1, g2⟩ := bind_some' h1; exact ⟨vs, g1, g2, .inr rfl⟩
    obtain ⟨vs, g1, g2, g3⟩ := hex
    refine ⟨oneOf vs, H', g2, fun ρ w args' hi hlo ha => calls_of_wp hf hb ?_⟩
    have hlen := ha.length
    simp only [Nat.ble_eq] at hl
    refine h2 hi hlo (enum_rel ha _) (by simp; omega) _ fun ρ' a' w' n1 n2 n3 n4 => ?_
    obtain ⟨v', r1, r2⟩ := results_run g1 n1.inv n2
    have post : a'.defers = [] ∧ ∃ v, (results fn a'.tmps).run C.P w' = .ok v w' ∧ ∃ ρ' v', Ending.returned v = .returned v' ∧ VRel ρ' (oneOf vs) v' ∧ Next lo ρ H w ρ' H' w' :=
      ⟨n4, v', r1, ρ', v', rfl, r2, n1⟩
    rcases g3 with rfl | rfl
    · exact post
    · exact post

theorem wp_exits {P : Program} {Q : Exit → Act → World → Prop} {next : Act → World → Prop} {ex : Ex} {a : Act} {w : World} (h : ex ≠ .normal) (hq : Q ex.to a w) : Exit.then next Q ex.to a w := by
  cases ex with
  | normal => exact absurd rfl h
  | exit id => exact hq
  | ret => exact hq

theorem evCode_sound {R : Type} {C : Cx} (hC : C.Ok) (hmix : C.P.follows .mixedOrders = true) : ∀ (n : Nat),
    (∀ (lo sz : Nat) (c : Code) (e : Env) (H : AH) (k : Ex → Env → AH → Option R) (r : R), evCode C n lo sz c e H k = some r →
      ∃ ex e' H', k ex e' H' = some r ∧ CodeOk C.P lo sz e H ex e' H' (fun Q a w => c.wp C.P Q a w)) ∧
    (∀ (lo sz : Nat) (c : Code) (e : Env) (H : AH) (k : Ex → Env → AH → Option R) (r : R), evCode C n lo sz (.loop c) e H k = some r →
      ∃ ex e' H', k ex e' H' = some r ∧ CodeOk C.P lo sz e H ex e' H' (fun Q a w => Code.rounds C.P c Q n a w))
  | 0 => ⟨fun lo sz c e H k r h => by simp [evCode] at h, fun lo sz c e H k r h => by simp [evCode] at h⟩
  | n + 1 => by
    obtain ⟨ih1, ih2⟩ := evCode_sound hC hmix n
    have hcal : CalOk C.P (calAt (R := R) C n) := cal_sound ih1
    have loop : ∀ (lo sz : Nat) (c : Code) (e : Env) (H : AH) (k : Ex → Env → AH → Option R) (r : R), evCode C (n + 1) lo sz (.loop c) e H k = some r →
        ∃ ex e' H', k ex e' H' = some r ∧ CodeOk C.P lo sz e H ex e' H' (fun Q a w => Code.rounds C.P c Q (n + 1) a w) := by
      intro lo sz c e H k r h
      simp only [evCode] at h
      obtain ⟨ex, e1, H1, h1, h2⟩ := ih1 _ _ _ _ _ _ _ h
      cases ex with
      | normal =>
        simp only at h1
        obtain ⟨ex', e', H', g1, g2⟩ := ih2 _ _ _ _ _ _ _ h1
        refine ⟨ex', e', H', g1, fun {ρ w a} hi hlo he hs Q hQ => ?_⟩
        show Code.wp C.P c (Exit.then (Code.rounds C.P c Q n) Q) a w
        refine h2 hi hlo he.dedup hs _ fun ρ1 a1 w1 m1 m2 m3 m4 => ?_
        exact g2 m1.inv (Nat.le_trans hlo m1.nx) m2 m3 Q fun ρ' a' w' q1 q2 q3 q4 => hQ ρ' a' w' (m1.trans q1) q2 q3 (q4.trans m4)
      | exit id =>
        refine ⟨.exit id, e1, H1, h1, fun {ρ w a} hi hlo he hs Q hQ => ?_⟩
        show Code.wp C.P c (Exit.then (Code.rounds C.P c Q n) Q) a w
        exact h2 hi hlo he.dedup hs _ fun ρ1 a1 w1 m1 m2 m3 m4 => hQ ρ1 a1 w1 m1 m2 m3 m4
      | ret =>
        refine ⟨.ret, e1, H1, h1, fun {ρ w a} hi hlo he hs Q hQ => ?_⟩
        show Code.wp C.P c (Exit.then (Code.rounds C.P c Q n) Q) a w
        exact h2 hi hlo he.dedup hs _ fun ρ1 a1 w1 m1 m2 m3 m4 => hQ ρ1 a1 w1 m1 m2 m3 m4
    refine ⟨fun lo sz c e H k r h => ?_, loop⟩
    cases c with
    | skip => exact ⟨.normal, e, H, h, fun {ρ w a} hi hlo he hs Q hQ => wp_skip (hQ ρ a w (Next.refl hi) he hs rfl)⟩
    | region id ops draw =>
      cases draw with
      | true =>
        simp only [evCode, cond_true] at h
        cases hd : drawOk ops with
        | false => rw [hd] at h; cases h
        | true =>
          rw [hd] at h
          simp only [cond_true] at h
          obtain ⟨vals, heaps, envs, e0, e1, hk, ht⟩ := evDraw_trace hC hcal h
          have htr : TraceOk C lo sz ops vals heaps envs := fun j o ho => ht j o (by simpa using ho)
          have hlen : ops.toList.length = ops.size := by simp
          rw [hlen] at hk
          refine ⟨.normal, _, _, hk, fun {ρ w a} hi hlo he hs Q hQ => wp_region_any hmix ?_⟩
          subst e0
          subst e1
          have hi' : Inv ρ (heaps 0) w.drew := (Next.draw (lo := lo) hi).inv
          have hn0 : Next lo ρ (heaps 0) w ρ (heaps 0) w.drew := Next.draw hi
          refine wpAny_draw (df := a.defers) hd htr hi' hlo (fun a' w' q1 q2 q3 q4 => hQ ρ a' w' (hn0.trans q1) q2 q3 q4) ops.size _ a w.drew (List.range ops.size) ?_ (by simp) (fun i hi _ => by simpa using hi)
          refine
          { len := by simp
            cl := fun i o ho hl => ?_
            nx := ⟨0, Nat.zero_le _, fun i o ho hm => ?_, Next.refl hi'⟩
            envA := fun i o t ho hd hl => ?_
            envB := fun t _ u hu => he t u hu
            sz := hs
            df := rfl }
          · have hlt : i < ops.size := (Array.getElem?_eq_some_iff.1 ho).1
            simp [hlt] at hl
          · have hlt : i < ops.size := (Array.getElem?_eq_some_iff.1 ho).1
            simp [hlt]
          · have hlt : i < ops.size := (Array.getElem?_eq_some_iff.1 ho).1
            simp [hlt] at hl
      | false =>
        simp only [evCode, cond_false] at h
        obtain ⟨e', H', g1, g2⟩ := evOps_sound hC hcal h
        exact ⟨.normal, e', H', g1, fun {ρ w a} hi hlo he hs Q hQ => wp_region_list (g2 hi hlo he hs Q hQ)⟩
    | seq x y =>
      simp only [evCode] at h
      obtain ⟨ex, e1, H1, h1, h2⟩ := ih1 _ _ _ _ _ _ _ h
      cases ex with
      | normal =>
        simp only at h1
        obtain ⟨ex', e', H', g1, g2⟩ := ih1 _ _ _ _ _ _ _ h1
        refine ⟨ex', e', H', g1, fun {ρ w a} hi hlo he hs Q hQ => wp_seq ?_⟩
        refine h2 hi hlo he hs _ fun ρ1 a1 w1 m1 m2 m3 m4 => ?_
        exact g2 m1.inv (Nat.le_trans hlo m1.nx) m2 m3 Q fun ρ' a' w' q1 q2 q3 q4 => hQ ρ' a' w' (m1.trans q1) q2 q3 (q4.trans m4)
      | exit id =>
        exact ⟨.exit id, e1, H1, h1, fun {ρ w a} hi hlo he hs Q hQ => wp_seq (h2 hi hlo he hs _ fun ρ1 a1 w1 m1 m2 m3 m4 => hQ ρ1 a1 w1 m1 m2 m3 m4)⟩
      | ret =>
        exact ⟨.ret, e1, H1, h1, fun {ρ w a} hi hlo he hs Q hQ => wp_seq (h2 hi hlo he hs _ fun ρ1 a1 w1 m1 m2 m3 m4 => hQ ρ1 a1 w1 m1 m2 m3 m4)⟩
    | cond x y z =>
      simp only [evCode] at h
      obtain ⟨v, h1, h⟩ := bind_some' h
      split at h
      · rename_i t
        have hc : ∀ {ρ : Map} {a : Act}, EnvRel ρ e a.tmps → a.eval x = .bool t := fun {ρ a} he => by
          have := opd_rel he h1
          generalize a.eval x = v' at *
          cases this
          rfl
        cases t with
        | true =>
          obtain ⟨ex, e', H', g1, g2⟩ := ih1 _ _ _ _ _ _ _ (by simpa using h)
          exact ⟨ex, e', H', g1, fun {ρ w a} hi hlo he hs Q hQ => wp_cond_true (hc he) (g2 hi hlo he hs Q hQ)⟩
        | false =>
          obtain ⟨ex, e', H', g1, g2⟩ := ih1 _ _ _ _ _ _ _ (by simpa using h)
          exact ⟨ex, e', H', g1, fun {ρ w a} hi hlo he hs Q hQ => wp_cond_false (hc he) (g2 hi hlo he hs Q hQ)⟩
      · cases h
    | block id x =>
      simp only [evCode] at h
      obtain ⟨ex, e1, H1, h1, h2⟩ := ih1 _ _ _ _ _ _ _ h
      cases ex with
      | normal => exact ⟨.normal, e1, H1, h1, fun {ρ w a} hi hlo he hs Q hQ => wp_block (h2 hi hlo he hs _ fun ρ1 a1 w1 m1 m2 m3 m4 => hQ ρ1 a1 w1 m1 m2 m3 m4)⟩
      | ret => exact ⟨.ret, e1, H1, h1, fun {ρ w a} hi hlo he hs Q hQ => wp_block (h2 hi hlo he hs _ fun ρ1 a1 w1 m1 m2 m3 m4 => hQ ρ1 a1 w1 m1 m2 m3 m4)⟩
      | exit j =>
        simp only at h1
        cases hj : Nat.beq j id with
        | true =>
          rw [hj] at h1
          have := Nat.eq_of_beq_eq_true hj
          subst this
          refine ⟨.normal, e1, H1, h1, fun {ρ w a} hi hlo he hs Q hQ => wp_block (h2 hi hlo he hs _ fun ρ1 a1 w1 m1 m2 m3 m4 => ?_)⟩
          simp only [Ex.to, Exit.inBlock, if_true]
          exact hQ ρ1 a1 w1 m1 m2 m3 m4
        | false =>
          rw [hj] at h1
          have hne : j ≠ id := fun e => by subst e; simp at hj
          refine ⟨.exit j, e1, H1, h1, fun {ρ w a} hi hlo he hs Q hQ => wp_block (h2 hi hlo he hs _ fun ρ1 a1 w1 m1 m2 m3 m4 => ?_)⟩
          simp only [Ex.to, Exit.inBlock, if_neg hne]
          exact hQ ρ1 a1 w1 m1 m2 m3 m4
    | loop x =>
      obtain ⟨ex, e', H', g1, g2⟩ := loop lo sz x e H k r h
      exact ⟨ex, e', H', g1, fun {ρ w a} hi hlo he hs Q hQ => wp_loop_rounds (n + 1) (g2 hi hlo he hs Q hQ)⟩
    | exit id => exact ⟨.exit id, e, H, h, fun {ρ w a} hi hlo he hs Q hQ => wp_exit (hQ ρ a w (Next.refl hi) he hs rfl)⟩
    | ret => exact ⟨.ret, e, H, h, fun {ρ w a} hi hlo he hs Q hQ => wp_ret (hQ ρ a w (Next.refl hi) he hs rfl)⟩
    | _ => simp [evCode] at h

/-! ### A call from without -/
def evFn {R : Type} (C : Cx) (n : Nat) (f : FuncId) (args : List Value) (k : Value → Option R) : Option R :=
  match C.P.funcs[f]? with
  | none => none
  | some fn =>
    match fn.body with
    | some c => calAt C n 0 f fn c args ⟨0, []⟩ fun v _ => bif flat v then k v else none
    | none => none

/-- A function of flat arguments: evaluated in an empty memory. -/
theorem evFn_sound {R : Type} {C : Cx} (hC : C.Ok) (hmix : C.P.follows .mixedOrders = true) {n : Nat} {f : FuncId} {args : List Value} {k : Value → Option R} {r : R} (h : evFn C n f args k = some r)
    (hargs : inns 0 args = true) : ∃ v, k v = some r ∧ flat v = true ∧ ∀ w, Calls C.P f ⟨args⟩ w fun e w' => e = .returned v ∧ RowKit.Below w.heap.size w w' := by
  unfold evFn at h
  split at h
  · cases h
  · rename_i fn hf
    split at h
    · rename_i c hb
      obtain ⟨v, H', h1, h2⟩ := cal_sound (fun lo sz c e H k r => (evCode_sound hC hmix n).1 lo sz c e H k r) _ _ _ _ _ _ _ _ h hf hb
      cases hfl : flat v with
      | false => rw [hfl] at h1; cases h1
      | true =>
        rw [hfl] at h1
        refine ⟨v, h1, hfl, fun w => ?_⟩
        have hi : Inv (fun _ => none) ⟨0, []⟩ w := ⟨fun _ _ => rfl, fun k o hm => by simp at hm, fun k o o' hm => by simp at hm, ⟨fun k o hm => by simp at hm, fun k o k' o' s s' hm => by simp at hm⟩⟩
        refine (h2 _ w args hi (Nat.le_refl _) (VRels.ofFlat _ hargs)).mono ?_
        rintro e w' ⟨ρ', v', rfl, g1, g2⟩
        have := g1.flat_eq hfl
        subst this
        exact ⟨rfl, g2.os, g2.tape, g2.output, g2.size, fun b hb => g2.keep b hb fun k o s _ hm => by simp at hm⟩
    · cases h

end Go.Vm
