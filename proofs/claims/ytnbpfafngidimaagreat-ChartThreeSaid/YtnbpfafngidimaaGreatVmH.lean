/- Conversions and small built-in functions are right; no conditions. -/
import Derived.Test.YtnbpfafngidimaaGreatVmG
namespace Go.Vm
set_option linter.unusedVariables false
set_option linter.unusedSimpArgs false

/-! ### One operand -/
def unE {R : Type} (op : UnOp) (x : Value) (k : Value → Option R) (other : Option R) : Option R :=
  match op, x with
  | .neg, .float .f64 b => forceN (Op.negFloat .f64 b) fun n => k (.float .f64 n)
  | .not, .bool b => k (.bool (!b))
  | _, _ => other

theorem unE_sound {R : Type} {P : Program} {op : UnOp} {x : Value} {k : Value → Option R} {other : Option R} {r : R} (h : unE op x k other = some r) :
    other = some r ∨ ∃ v, k v = some r ∧ flat v = true ∧ ∀ {ρ : Map} {w : World} {x' : Value}, VRel ρ x x' → (Op.unary op x').run P w = .ok v w := by
  unfold unE at h
  split at h
  · rw [forceN_eq] at h
    exact .inr ⟨_, h, rfl, fun hx => by cases hx; rfl⟩
  · exact .inr ⟨_, h, rfl, fun hx => by cases hx; rfl⟩
  · exact .inl h

def convE {R : Type} (fi : Fi) (P : Program) (s d : TypeId) (x : Value) (k : Value → Option R) (other : Option R) : Option R :=
  bif (P.underlying s).isSome then
    match P.underlying d, x with
    | some (.int kk), .int _ n => fi R (kk.wrap n) fun n => k (.int kk n)
    | some (.float .f64), .int _ n => forceN (floatOfInt .f64 n) fun b => k (.float .f64 b)
    | some (.int kk), .float .f64 b => (floatToIntVal .f64 b kk).bind fun n => fi R n fun n => k (.int kk n)
    | _, _ => other
  else other

theorem convE_sound {R : Type} {P : Program} {s d : TypeId} {x : Value} {k : Value → Option R} {other : Option R} {r : R} {fi : Fi} (hfi : fi.Fair) (h : convE fi P s d x k other = some r) :
    other = some r ∨ ∃ v, k v = some r ∧ flat v = true ∧ ∀ {ρ : Map} {w : World} {x' : Value}, VRel ρ x x' → (convert s d x').run P w = .ok v w := by
  unfold convE at h
  cases hs : (P.underlying s).isSome with
  | false => rw [hs] at h; exact .inl h
  | true =>
    rw [hs] at h
    simp only [cond_true] at h
    obtain ⟨u, hu⟩ := Option.isSome_iff_exists.1 hs
    split at h
    · rename_i kk k2 n hd
      rw [hfi] at h
      refine .inr ⟨_, h, rfl, fun {ρ w x'} hx => ?_⟩
      cases hx
      cases u <;> simp [convert, run_underlying hu, run_underlying hd, Conv.intToInt]
    · rename_i k2 n hd
      rw [forceN_eq] at h
      refine .inr ⟨_, h, rfl, fun {ρ w x'} hx => ?_⟩
      cases hx
      cases u <;> simp [convert, run_underlying hu, run_underlying hd, Conv.intToFloat] <;> rfl
    · rename_i kk b hd
      obtain ⟨n, h1, h⟩ := bind_some' h
      rw [hfi] at h
      exact .inr ⟨_, h, rfl, fun {ρ w x'} hx => by cases hx; exact run_convert_float_int w s d .f64 kk b n hs hd h1⟩
    · exact .inl h

def pickE {R : Type} (c : Value) (x y : Option Value) (k : Value → Option R) : Option R :=
  match c with
  | .bool t =>
    match x, y with
    | some (.bool u), some (.bool v) => k (.bool (bif t then u else v))
    | _, _ => bif t then x.bind k else y.bind k
  | _ => none

/-! ### Built-in functions that touch no memory -/
def builtinE {R : Type} (P : Program) (b : Builtin) (ts : Array TypeId) (vs : List Value) (k : Value → Option R) (other : Option R) : Option R :=
  match b, vs with
  | .real, [.complex kk re im] => k (.float kk re)
  | .imag, [.complex kk re im] => k (.float kk im)
  | .complex, [.float k1 re, .float k2 im] => bif decide (k1 = k2) then k (.complex k1 re im) else none
  | .len, [.slice a n c] =>
    match ts[0]? with
    | some t =>
      match P.underlying t with
      | some (.slice _) => k (.int .i64 n)
      | _ => none
    | none => none
  | _, _ => other

theorem builtinE_sound {R : Type} {P : Program} {b : Builtin} {ts : Array TypeId} {ty : TypeId} {vs : List Value} {k : Value → Option R} {other : Option R} {r : R} (h : builtinE P b ts vs k other = some r) :
    other = some r ∨ ∃ v, k v = some r ∧ flat v = true ∧ ∀ {ρ : Map} {w : World} {cs : Array Bool} {vs' : List Value}, VRels ρ vs vs' → (builtin b ts ty cs ⟨vs'⟩).run P w = .ok (.value v) w := by
  unfold builtinE at h
  split at h
  · refine .inr ⟨_, h, rfl, fun {ρ w cs vs'} hx => ?_⟩
    obtain _ | ⟨h1, h2⟩ := hx
    cases h1; cases h2
    rfl
  · refine .inr ⟨_, h, rfl, fun {ρ w cs vs'} hx => ?_⟩
    obtain _ | ⟨h1, h2⟩ := hx
    cases h1; cases h2
    rfl
  · rename_i k1 re k2 im
    cases hk : decide (k1 = k2) with
    | false => rw [hk] at h; cases h
    | true =>
      rw [hk] at h
      have := of_decide_eq_true hk
      subst this
      refine .inr ⟨_, h, rfl, fun {ρ w cs vs'} hx => ?_⟩
      obtain _ | ⟨h1, h2⟩ := hx
      obtain _ | ⟨h2, h3⟩ := h2
      cases h1; cases h2; cases h3
      simp only [builtin, Sem.run_bind, run_complex, Result.andThen_ok, Sem.run_pure]
  · rename_i a n c
    split at h
    · rename_i t ht
      split at h
      · rename_i e hu
        refine .inr ⟨_, h, rfl, fun {ρ w cs vs'} hx => ?_⟩
        obtain _ | ⟨h1, h2⟩ := hx
        cases h2
        cases h1 <;> simp [builtin, Builtin.len_, ht, run_underlying hu, goInt]
      · cases h
    · cases h
  · exact .inl h

theorem run_call_builtin {P : Program} {a : Act} {o : Oper} {c : Call} {b : Builtin} {w : World} (ho : o.op = .call c) (hc : c.callee = .builtin b) :
    ∃ cs, (execOp a.eval o).run P w = (builtin b c.argTypes o.type cs (c.args.map a.eval)).run P w := by
  refine ⟨c.args.map fun | .const _ => true | _ => false, ?_⟩
  simp only [execOp, ho, resolve, hc, invoke, Sem.run_bind, Sem.run_pure, Result.andThen_ok]
  rfl

end Go.Vm
