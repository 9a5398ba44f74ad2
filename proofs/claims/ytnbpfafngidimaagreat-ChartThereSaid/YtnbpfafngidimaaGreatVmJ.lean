/- Calls are right, if what is told of the called functions is right. -/
import Derived.Test.YtnbpfafngidimaaGreatVmI
import Derived.LoopN
namespace Go.Vm
set_option linter.unusedVariables false
set_option linter.unusedSimpArgs false

/-! ### What is told of the program's functions ahead of the evaluation -/
abbrev Sum := ∀ R : Type, List Value → (Value → Option R) → Option R

structure Cx where
  P : Program
  /- functions with a body whose contract is used in their place -/
  sums : FuncId → Option Sum
  /- functions without a body -/
  exts : FuncId → Option Sum
  /- methods of values in interfaces -/
  meths : TypeId → String → Option FuncId
  /- may it write to what is there? -/
  wild : FuncId → Bool
  fi : Fi

def SumOk (P : Program) (f : FuncId) (g : Sum) : Prop :=
  ∀ (R : Type) (args : List Value) (k : Value → Option R) (r : R), g R args k = some r → inns 0 args = true ∧ ∃ v, k v = some r ∧ flat v = true ∧
    ∀ w, Calls P f ⟨args⟩ w fun e w' => e = .returned v ∧ RowKit.Below w.heap.size w w'

def ExtOk (P : Program) (f : FuncId) (g : Sum) : Prop :=
  ∀ (R : Type) (args : List Value) (k : Value → Option R) (r : R), g R args k = some r → inns 0 args = true ∧ ∃ v, k v = some r ∧ flat v = true ∧
    ∀ w, (callFunc f ⟨args⟩).run P w = .ok (.value v) w

structure Cx.Ok (C : Cx) : Prop where
  fair : C.fi.Fair
  sums : ∀ f g, C.sums f = some g → SumOk C.P f g ∧ ∃ fn c, C.P.funcs[f]? = some fn ∧ (fn.name == "runtime.NumGoroutine") = false ∧ fn.body = some c
  exts : ∀ f g, C.exts f = some g → ExtOk C.P f g
  meths : ∀ t s f, C.meths t s = some f → ∀ v w, (method (C.P.types.size + Made.depth) t v s).run C.P w = .ok (f, v) w

/-! ### Leaving a code -/
inductive Ex where
  | normal
  | exit (id : Nat)
  | ret

def Ex.to : Ex → Exit
  | .normal => .normal
  | .exit id => .exit id
  | .ret => .ret

/-! ### Calls -/
abbrev Cal (R : Type) := Nat → FuncId → Func → Code → List Value → AH → (Value → AH → Option R) → Option R

/-- What a callee left behind is forgotten where its result does not name it. -/
def tidy (H H' : AH) (v : Value) : AH := bif inn H.next v then H else H'

def callE {R : Type} (C : Cx) (cal : Cal R) (lo : Nat) (f : FuncId) (args : List Value) (H : AH) (k : Value → AH → Option R) : Option R :=
  match C.sums f with
  | some g => g R args fun v => k v H
  | none =>
    match C.exts f with
    | some g => g R args fun v => k v H
    | none =>
      match C.P.funcs[f]? with
      | none => none
      | some fn =>
        match fn.body with
        | some c =>
          bif !(fn.name == "runtime.NumGoroutine") then
            bif C.wild f then cal lo f fn c args H k
            else cal H.next f fn c args H fun v H' => k v (tidy H H' v)
          else none
        | none =>
          bif inns 0 args then
            match calm C.P (callFunc f ⟨args⟩) with
            | some (.value v) => bif flat v then k v H else none
            | _ => none
          else none

/-- The callee's evaluator is sound. -/
def CalOk (P : Program) {R : Type} (cal : Cal R) : Prop :=
  ∀ lo f fn c args H k r, cal lo f fn c args H k = some r → P.funcs[f]? = some fn → fn.body = some c →
    ∃ v H', k v H' = some r ∧ ∀ ρ w args', Inv ρ H w → lo ≤ H.next → VRels ρ args args' → Calls P f ⟨args'⟩ w fun e w' => ∃ ρ' v', e = .returned v' ∧ VRel ρ' v v' ∧ Next lo ρ H w ρ' H' w'

theorem below_next {lo : Nat} {ρ : Map} {H : AH} {w w' : World} (hi : Inv ρ H w) (hb : RowKit.Below w.heap.size w w') : Next lo ρ H w ρ H w' :=
  Next.forget (lo := lo) (ρ' := ρ) (H' := H) hi
    { inv := ⟨hi.dom, hi.wf, hi.one, ⟨fun k o hm => let ⟨s, h1, h2⟩ := hi.rel.obj k o hm; ⟨s, h1, h2.heap (hb.block s.b h2.lt)⟩, hi.rel.inj⟩⟩
      same := fun _ _ => rfl
      nx := Nat.le_refl _
      size := hb.size
      os := hb.os
      tape := hb.tape
      output := hb.output
      keep := fun b hb' _ => hb.block b hb'
      own := fun k o s hk hm he => .inr ⟨k, o, s, hk, hm, he, rfl⟩
      old := fun _ _ _ => Iff.rfl }

/-- THE OUTCOME OF A CALL: a value at once, or a function that is entered. -/
def CallDone (P : Program) (lo : Nat) (s : Sem Go.Next) (ρ : Map) (H : AH) (w : World) (v : Value) (H' : AH) : Prop :=
  (∃ v', s.run P w = .ok (.value v') w ∧ VRel ρ v v' ∧ H' = H) ∨
  (∃ f args', s.run P w = .ok (.enter f args') w ∧ Calls P f args' w fun e w' => ∃ ρ' v', e = .returned v' ∧ VRel ρ' v v' ∧ Next lo ρ H w ρ' H' w')

theorem run_callFunc_enter {P : Program} {f : FuncId} {fn : Func} {c : Code} {args : Array Value} {w : World} (hf : P.funcs[f]? = some fn) (hn : (fn.name == "runtime.NumGoroutine") = false) (hb : fn.body = some c) :
    (callFunc f args).run P w = .ok (.enter f args) w := by
  have hn' : ¬ fn.name = "runtime.NumGoroutine" := by simpa using hn
  simp [callFunc, hf, hn', hb]

theorem callE_sound {R : Type} {C : Cx} {cal : Cal R} (hC : C.Ok) (hcal : CalOk C.P cal) {lo : Nat} {f : FuncId} {args : List Value} {H : AH} {k : Value → AH → Option R} {r : R}
    (h : callE C cal lo f args H k = some r) :
    ∃ v H', k v H' = some r ∧ ∀ {ρ : Map} {w : World} {args' : List Value}, Inv ρ H w → lo ≤ H.next → VRels ρ args args' → CallDone C.P lo (callFunc f ⟨args'⟩) ρ H w v H' := by
  unfold callE at h
  split at h
  · rename_i g hg
    obtain ⟨hs, fn, c, h1, h2, h3⟩ := hC.sums f g hg
    obtain ⟨hfl, v, g1, g2, g3⟩ := hs _ _ _ _ h
    refine ⟨v, H, g1, fun {ρ w args'} hi hlo ha => ?_⟩
    have := ha.flat_eq hfl
    subst this
    refine .inr ⟨f, _, run_callFunc_enter h1 h2 h3, (g3 w).mono ?_⟩
    rintro e w' ⟨rfl, hb⟩
    exact ⟨ρ, v, rfl, VRel.ofFlat ρ g2, below_next hi hb⟩
  · split at h
    · rename_i g hg
      obtain ⟨hfl, v, g1, g2, g3⟩ := hC.exts f g hg _ _ _ _ h
      refine ⟨v, H, g1, fun {ρ w args'} hi hlo ha => ?_⟩
      have := ha.flat_eq hfl
      subst this
      exact .inl ⟨v, g3 w, VRel.ofFlat ρ g2, rfl⟩
    · split at h
      · cases h
      · rename_i fn hf
        split at h
        · rename_i c hb
          cases hn : (fn.name == "runtime.NumGoroutine") with
          | true => rw [hn] at h; cases h
          | false =>
            rw [hn] at h
            simp only [Bool.not_false, cond_true] at h
            cases hw : C.wild f with
            | true =>
              rw [hw] at h
              obtain ⟨v, H', g1, g2⟩ := hcal _ _ _ _ _ _ _ _ h hf hb
              exact ⟨v, H', g1, fun {ρ w args'} hi hlo ha => .inr ⟨f, _, run_callFunc_enter hf hn hb, g2 ρ w args' hi hlo ha⟩⟩
            | false =>
              rw [hw] at h
              obtain ⟨v, H', g1, g2⟩ := hcal _ _ _ _ _ _ _ _ h hf hb
              refine ⟨v, tidy H H' v, g1, fun {ρ w args'} hi hlo ha => .inr ⟨f, _, run_callFunc_enter hf hn hb, (g2 ρ w args' hi (Nat.le_refl _) ha).mono ?_⟩⟩
              rintro e w' ⟨ρ', v', rfl, hv, hnx⟩
              unfold tidy
              cases hin : inn H.next v with
              | true => exact ⟨ρ, v', rfl, hv.scope hnx.same hin, hnx.forget hi⟩
              | false => exact ⟨ρ', v', rfl, hv, hnx.weaken hlo hi⟩
        · cases hfl : inns 0 args with
          | false => rw [hfl] at h; cases h
          | true =>
            rw [hfl] at h
            simp only [cond_true] at h
            split at h
            · rename_i v hc
              cases hf' : flat v with
              | false => rw [hf'] at h; cases h
              | true =>
                rw [hf'] at h
                refine ⟨v, H, h, fun {ρ w args'} hi hlo ha => ?_⟩
                have := ha.flat_eq hfl
                subst this
                exact .inl ⟨v, calm_run hc w, VRel.ofFlat ρ hf', rfl⟩
            · cases h

/-- An operation that calls a Go function, or any other. -/
def evAny {R : Type} (C : Cx) (cal : Cal R) (lo : Nat) (e : Env) (H : AH) (o : Oper) (k : Value → AH → Option R) : Option R :=
  match o.op with
  | .call { callee := .value x, args := xs, argTypes := _ } => (opd e x).bind fun fv => (opds e xs.toList).bind fun vs =>
      match fv with
      | .func (.func f) ⟨as⟩ ⟨bs⟩ => callE C cal lo f (as ++ vs ++ bs) H k
      | _ => none
  | .call { callee := .invoke x name, args := xs, argTypes := _ } => (opd e x).bind fun iv => (opds e xs.toList).bind fun vs =>
      match iv with
      | .iface t v =>
        match C.meths t name with
        | some f => callE C cal lo f (v :: vs) H k
        | none => none
      | _ => none
  | _ => evOp C.fi C.P lo e H o k

/-- What is shown of an operation: it may be carried out. -/
def OpWp (P : Program) (lo : Nat) (o : Oper) (a : Act) (ρ : Map) (H : AH) (w : World) (v : Value) (H' : AH) : Prop :=
  ∀ (K : Act → World → Prop) (Q : Exit → Act → World → Prop), (∀ ρ' w' v', Next lo ρ H w ρ' H' w' → VRel ρ' v v' → K (a.put o.dst v') w') → o.wp P a w K Q

theorem OpWp.ofDone {P : Program} {lo : Nat} {o : Oper} {a : Act} {ρ : Map} {H : AH} {w : World} {v : Value} {H' : AH} (h : Done P lo o a ρ H w v H') : OpWp P lo o a ρ H w v H' := by
  intro K Q hK
  obtain ⟨ρ', w', v', n, h1, h2, h3, h4⟩ := h
  unfold Oper.wp
  rw [h1]
  rcases h2 with rfl | ⟨rfl, rfl⟩
  · exact hK ρ' w' v' h3 h4
  · exact hK ρ' w' undef h3 h4

theorem OpWp.ofCall {P : Program} {lo : Nat} {o : Oper} {a : Act} {ρ : Map} {H : AH} {w : World} {v : Value} {H' : AH} (hi : Inv ρ H w) {s : Sem Go.Next} (hs : (execOp a.eval o).run P w = s.run P w)
    (h : CallDone P lo s ρ H w v H') : OpWp P lo o a ρ H w v H' := by
  intro K Q hK
  unfold Oper.wp
  rw [hs]
  rcases h with ⟨v', h1, h2, rfl⟩ | ⟨f, args', h1, h2⟩
  · rw [h1]
    exact hK ρ w v' (Next.refl hi) h2
  · rw [h1]
    refine h2.mono ?_
    rintro e w' ⟨ρ', v', rfl, g1, g2⟩
    exact hK ρ' w' v' g2 g1

theorem evAny_sound {R : Type} {C : Cx} {cal : Cal R} (hC : C.Ok) (hcal : CalOk C.P cal) {lo : Nat} {e : Env} {H : AH} {o : Oper} {k : Value → AH → Option R} {r : R}
    (h : evAny C cal lo e H o k = some r) :
    ∃ v H', k v H' = some r ∧ ∀ {ρ : Map} {w : World} {a : Act}, Inv ρ H w → lo ≤ H.next → EnvRel ρ e a.tmps → OpWp C.P lo o a ρ H w v H' := by
  unfold evAny at h
  split at h
  · rename_i x xs ts ho
    obtain ⟨fv, h1, h⟩ := bind_some' h
    obtain ⟨vs, h2, h⟩ := bind_some' h
    split at h
    · rename_i f as bs
      obtain ⟨v, H', g1, g2⟩ := callE_sound hC hcal h
      refine ⟨v, H', g1, fun {ρ w a} hi hlo he => ?_⟩
      have hx := opd_rel he h1
      generalize hex : a.eval x = x' at hx
      cases hx with
      | func _ h3 h4 =>
        rename_i as' bs'
        refine OpWp.ofCall hi ?_ (g2 hi hlo ((h3.append (opds_rel he h2)).append h4))
        have e1 : xs.map a.eval = ⟨xs.toList.map a.eval⟩ := by apply Array.ext'; simp
        simp only [execOp, ho, resolve, hex, Deferred.ofValue, Sem.run_bind, Sem.run_pure, Result.andThen_ok, invoke, e1]
        simp
    · cases h
  · rename_i x name xs ts ho
    obtain ⟨iv, h1, h⟩ := bind_some' h
    obtain ⟨vs, h2, h⟩ := bind_some' h
    cases iv with
    | iface t v =>
      simp only at h
      cases hm : C.meths t name with
      | none => rw [hm] at h; cases h
      | some f =>
        rw [hm] at h
        simp only at h
        obtain ⟨v2, H', g1, g2⟩ := callE_sound hC hcal h
        refine ⟨v2, H', g1, fun {ρ w a} hi hlo he => ?_⟩
        have hx := opd_rel he h1
        generalize hex : a.eval x = x' at hx
        cases hx with
        | iface _ h3 =>
          rename_i v'
          refine OpWp.ofCall hi ?_ (g2 hi hlo (.cons h3 (opds_rel he h2)))
          have e1 : xs.map a.eval = ⟨xs.toList.map a.eval⟩ := by apply Array.ext'; simp
          simp only [execOp, ho, resolve, hex, Sem.run_bind, Sem.run_pure, Result.andThen_ok, invoke, e1]
          have e2 : List.take xs.size (List.map a.eval xs.toList) = List.map a.eval xs.toList := List.take_of_length_le (by simp)
          simp [callMethod, hC.meths t name f hm, e2]
    | _ => cases h
  · obtain ⟨v, H', g1, g2⟩ := evOp_sound (lo := lo) hC.fair h
    exact ⟨v, H', g1, fun hi hlo he => OpWp.ofDone (g2 hi hlo he)⟩

end Go.Vm
