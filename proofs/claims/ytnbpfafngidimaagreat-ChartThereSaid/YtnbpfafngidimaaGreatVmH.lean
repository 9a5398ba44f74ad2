/- Conversions and small built-in functions are right; no conditions. Two structs of whole numbers are compared rightly; no conditions. -/
import Derived.Test.YtnbpfafngidimaaGreatVmF
import Derived.Laws.StructEq
namespace Go.Vm
set_option linter.unusedVariables false
set_option linter.unusedSimpArgs false

/-! ### One operand -/
def unE {R : Type} (op : UnOp) (x : Value) (k : Value → Option R) (other : Option R) : Option R :=
  match op, x with
  | .neg, .float .f64 b => forceN (Op.negFloat .f64 b) fun n => k (.float .f64 n)
  | .not, .bool b => k (.bool (!b))
  | _, _ => other

theorem unE_sound {R : Type} {P : Program} {op : UnOp} {x : Value} {k : Value → Option R} {other : Option R} {r : R} (h : unE op x k other = some r) :
    other = some r ∨ ∃ v, k v = some r ∧ flat v = true ∧ ∀ {ρ : Map} {w : World} {x' : Value}, VRel ρ x x' → (Op.unary op x').run P w = .ok v w := by
  unfold unE at h
  split at h
  · rw [forceN_eq] at h
    exact .inr ⟨_, h, rfl, fun hx => by cases hx; rfl⟩
  · exact .inr ⟨_, h, rfl, fun hx => by cases hx; rfl⟩
  · exact .inl h

def convE {R : Type} (fi : Fi) (P : Program) (s d : TypeId) (x : Value) (k : Value → Option R) (other : Option R) : Option R :=
  bif (P.underlying s).isSome then
    match P.underlying d, x with
    | some (.int kk), .int _ n => fi R (kk.wrap n) fun n => k (.int kk n)
    | some (.float .f64), .int _ n => forceN (floatOfInt .f64 n) fun b => k (.float .f64 b)
    | some (.int kk), .float .f64 b => (floatToIntVal .f64 b kk).bind fun n => fi R n fun n => k (.int kk n)
    | _, _ => other
  else other

theorem convE_sound {R : Type} {P : Program} {s d : TypeId} {x : Value} {k : Value → Option R} {other : Option R} {r : R} {fi : Fi} (hfi : fi.Fair) (h : convE fi P s d x k other = some r) :
    other = some r ∨ ∃ v, k v = some r ∧ flat v = true ∧ ∀ {ρ : Map} {w : World} {x' : Value}, VRel ρ x x' → (convert s d x').run P w = .ok v w := by
  unfold convE at h
  cases hs : (P.underlying s).isSome with
  | false => rw [hs] at h; exact .inl h
  | true =>
    rw [hs] at h
    simp only [cond_true] at h
    obtain ⟨u, hu⟩ := Option.isSome_iff_exists.1 hs
    split at h
    · rename_i kk k2 n hd
      rw [hfi] at h
      refine .inr ⟨_, h, rfl, fun {ρ w x'} hx => ?_⟩
      cases hx
      cases u <;> simp [convert, run_underlying hu, run_underlying hd, Conv.intToInt]
    · rename_i k2 n hd
      rw [forceN_eq] at h
      refine .inr ⟨_, h, rfl, fun {ρ w x'} hx => ?_⟩
      cases hx
      cases u <;> simp [convert, run_underlying hu, run_underlying hd, Conv.intToFloat] <;> rfl
    · rename_i kk b hd
      obtain ⟨n, h1, h⟩ := bind_some' h
      rw [hfi] at h
      exact .inr ⟨_, h, rfl, fun {ρ w x'} hx => by cases hx; exact run_convert_float_int w s d .f64 kk b n hs hd h1⟩
    · exact .inl h

def pickE {R : Type} (c : Value) (x y : Option Value) (k : Value → Option R) : Option R :=
  match c with
  | .bool t =>
    match x, y with
    | some (.bool u), some (.bool v) => k (.bool (bif t then u else v))
    | _, _ => bif t then x.bind k else y.bind k
  | _ => none

/-! ### Built-in functions that touch no memory -/
def builtinE {R : Type} (P : Program) (b : Builtin) (ts : Array TypeId) (vs : List Value) (k : Value → Option R) (other : Option R) : Option R :=
  match b, vs with
  | .real, [.complex kk re im] => k (.float kk re)
  | .imag, [.complex kk re im] => k (.float kk im)
  | .complex, [.float k1 re, .float k2 im] => bif decide (k1 = k2) then k (.complex k1 re im) else none
  | .len, [.slice a n c] =>
    match ts[0]? with
    | some t =>
      match P.underlying t with
      | some (.slice _) => k (.int .i64 n)
      | _ => none
    | none => none
  | _, _ => other

theorem builtinE_sound {R : Type} {P : Program} {b : Builtin} {ts : Array TypeId} {ty : TypeId} {vs : List Value} {k : Value → Option R} {other : Option R} {r : R} (h : builtinE P b ts vs k other = some r) :
    other = some r ∨ ∃ v, k v = some r ∧ flat v = true ∧ ∀ {ρ : Map} {w : World} {cs : Array Bool} {vs' : List Value}, VRels ρ vs vs' → (builtin b ts ty cs ⟨vs'⟩).run P w = .ok (.value v) w := by
  unfold builtinE at h
  split at h
  · refine .inr ⟨_, h, rfl, fun {ρ w cs vs'} hx => ?_⟩
    obtain _ | ⟨h1, h2⟩ := hx
    cases h1; cases h2
    rfl
  · refine .inr ⟨_, h, rfl, fun {ρ w cs vs'} hx => ?_⟩
    obtain _ | ⟨h1, h2⟩ := hx
    cases h1; cases h2
    rfl
  · rename_i k1 re k2 im
    cases hk : decide (k1 = k2) with
    | false => rw [hk] at h; cases h
    | true =>
      rw [hk] at h
      have := of_decide_eq_true hk
      subst this
      refine .inr ⟨_, h, rfl, fun {ρ w cs vs'} hx => ?_⟩
      obtain _ | ⟨h1, h2⟩ := hx
      obtain _ | ⟨h2, h3⟩ := h2
      cases h1; cases h2; cases h3
      simp only [builtin, Sem.run_bind, run_complex, Result.andThen_ok, Sem.run_pure]
  · rename_i a n c
    split at h
    · rename_i t ht
      split at h
      · rename_i e hu
        refine .inr ⟨_, h, rfl, fun {ρ w cs vs'} hx => ?_⟩
        obtain _ | ⟨h1, h2⟩ := hx
        cases h2
        cases h1 <;> simp [builtin, Builtin.len_, ht, run_underlying hu, goInt]
      · cases h
    · cases h
  · exact .inl h

theorem run_call_builtin {P : Program} {a : Act} {o : Oper} {c : Call} {b : Builtin} {w : World} (ho : o.op = .call c) (hc : c.callee = .builtin b) :
    ∃ cs, (execOp a.eval o).run P w = (builtin b c.argTypes o.type cs (c.args.map a.eval)).run P w := by
  refine ⟨c.args.map fun | .const _ => true | _ => false, ?_⟩
  simp only [execOp, ho, resolve, hc, invoke, Sem.run_bind, Sem.run_pure, Result.andThen_ok]
  rfl

end Go.Vm
namespace Go.Vm
set_option linter.unusedVariables false
set_option linter.unusedSimpArgs false

/-! ### Two structs of whole numbers compared -/
def eqFieldsE {R : Type} (P : Program) (xs ys : List Value) : List Field → (Bool → Option R) → Option R
  | [], k => k true
  | f :: fs, k =>
    bif f.name == "_" then none
    else loadE P f.type xs f.offset fun a => loadE P f.type ys f.offset fun b =>
      match a, b with
      | .int ka x, .int kb y => bif decide (ka = kb) then forceB (x == y) fun t => match t with
          | true => eqFieldsE P xs ys fs k
          | false => k false
        else none
      | _, _ => none

def intFields (P : Program) : List Field → Bool
  | [] => true
  | f :: fs => (match P.underlying f.type with | some (.int _) => true | _ => false) && intFields P fs

theorem eqFieldsE_sound {R : Type} {P : Program} {xs ys : List Value} {d : Nat} : ∀ {fs : List Field} {k : Bool → Option R} {r : R}, intFields P fs = true → eqFieldsE P xs ys fs k = some r →
    ∃ b, k b = some r ∧ ∀ {ρ : Map} {w : World} {xs' ys' : List Value}, VRels ρ xs xs' → VRels ρ ys ys' → (Op.eqFields (d + 1) ⟨xs'⟩ ⟨ys'⟩ fs).run P w = .ok b w
  | [], k, r, _, h => ⟨true, h, fun _ _ => rfl⟩
  | f :: fs, k, r, hi, h => by
    simp only [intFields, Bool.and_eq_true] at hi
    obtain ⟨hi1, hi2⟩ := hi
    unfold eqFieldsE at h
    cases hn : (f.name == "_") with
    | true => rw [hn] at h; cases h
    | false =>
      rw [hn] at h
      simp only [cond_false] at h
      obtain ⟨a, h1, g1⟩ := run_part h
      obtain ⟨b, h2, g2⟩ := run_part h1
      split at h2
      · rename_i ka x kb y
        cases hk : decide (ka = kb) with
        | false => rw [hk] at h2; cases h2
        | true =>
          rw [hk] at h2
          have hkk := of_decide_eq_true hk
          subst hkk
          simp only [cond_true] at h2
          rw [forceB_eq] at h2
          have hname : f.name ≠ "_" := by simpa using hn
          have hu : ∃ kk, P.underlying f.type = some (.int kk) := by
            split at hi1
            · exact ⟨_, ‹_›⟩
            · cases hi1
          obtain ⟨kk, hu⟩ := hu
          cases hxy : (x == y) with
          | false =>
            rw [hxy] at h2
            refine ⟨false, h2, fun {ρ w xs' ys'} hx hy => ?_⟩
            obtain ⟨a', e1, r1⟩ := g1 hx (w := w)
            obtain ⟨b', e2, r2⟩ := g2 hy (w := w)
            cases r1; cases r2
            unfold Op.eqFields
            rw [if_pos hname]
            simp only [Sem.run_bind, e1, e2, Result.andThen_ok, run_equalIn_int (P := P) w d f.type _ _ x y hu, hxy]
            simp
          | true =>
            rw [hxy] at h2
            simp only at h2
            obtain ⟨b, h3, g3⟩ := eqFieldsE_sound (d := d) hi2 h2
            refine ⟨b, h3, fun {ρ w xs' ys'} hx hy => ?_⟩
            obtain ⟨a', e1, r1⟩ := g1 hx (w := w)
            obtain ⟨b', e2, r2⟩ := g2 hy (w := w)
            cases r1; cases r2
            unfold Op.eqFields
            rw [if_pos hname]
            simp only [Sem.run_bind, e1, e2, Result.andThen_ok, run_equalIn_int (P := P) w d f.type _ _ x y hu, hxy]
            simp
            exact g3 hx hy
      · cases h2

def eqAggE {R : Type} (P : Program) (op : BinOp) (t : TypeId) (x y : Value) (k : Value → Option R) (other : Option R) : Option R :=
  match x, y with
  | .agg ⟨xs⟩, .agg ⟨ys⟩ =>
    match P.underlying t with
    | some (.struct fs) =>
      bif intFields P fs.toList && !(P.stoodInHeld t) && !(P.eqGuardType P.depth t) then
        match op with
        | .eql => eqFieldsE P xs ys fs.toList fun b => k (.bool b)
        | .neq => eqFieldsE P xs ys fs.toList fun b => k (.bool (!b))
        | _ => other
      else other
    | _ => other
  | _, _ => other

theorem eqAggE_sound {R : Type} {P : Program} {op : BinOp} {t : TypeId} {ox oy : Operand} {x y : Value} {k : Value → Option R} {other : Option R} {r : R} (h : eqAggE P op t x y k other = some r) :
    other = some r ∨ ∃ v, k v = some r ∧ flat v = true ∧ ∀ {ρ : Map} {w : World} {x' y' : Value}, VRel ρ x x' → VRel ρ y y' → ((do eqGuard op t ox oy x' y'; binOp op t x' y') : Sem Value).run P w = .ok v w := by
  unfold eqAggE at h
  split at h
  · rename_i xs ys
    split at h
    · rename_i fs hu
      cases hc : (intFields P fs.toList && !(P.stoodInHeld t) && !(P.eqGuardType P.depth t)) with
      | false => rw [hc] at h; exact .inl h
      | true =>
        rw [hc] at h
        simp only [Bool.and_eq_true, Bool.not_eq_true'] at hc
        obtain ⟨⟨c1, c2⟩, c3⟩ := hc
        have hf : P.fieldsOf t = fs := by unfold Program.fieldsOf; rw [hu]
        have key : ∀ {b : Bool} {ρ : Map} {w : World} {xs' ys' : List Value}, (∀ {ρ : Map} {w : World} {xs' ys' : List Value}, VRels ρ xs xs' → VRels ρ ys ys' → (Op.eqFields (9998 + 1) ⟨xs'⟩ ⟨ys'⟩ fs.toList).run P w = .ok b w) →
            VRels ρ xs xs' → VRels ρ ys ys' → (Op.equalIn 10000 t (.agg ⟨xs'⟩) (.agg ⟨ys'⟩)).run P w = .ok b w := fun {b ρ w xs' ys'} g hx hy => by
          rw [show (10000 : Nat) = 9999 + 1 from rfl, run_equalIn_agg w 9999 t _ _ (by rw [hf]; exact hu) c2, hf]
          exact g hx hy
        simp only [cond_true] at h
        split at h
        · obtain ⟨b, h1, g1⟩ := eqFieldsE_sound (d := 9998) c1 h
          refine .inr ⟨_, h1, rfl, fun {ρ w x' y'} hx hy => ?_⟩
          cases hx with | agg hx =>
          cases hy with | agg hy =>
          rw [Sem.run_bind, run_eqGuard_agg w _ t ox oy _ _ c3, Result.andThen_ok, run_eql_struct, key g1 hx hy]
          rfl
        · obtain ⟨b, h1, g1⟩ := eqFieldsE_sound (d := 9998) c1 h
          refine .inr ⟨_, h1, rfl, fun {ρ w x' y'} hx hy => ?_⟩
          cases hx with | agg hx =>
          cases hy with | agg hy =>
          rw [Sem.run_bind, run_eqGuard_agg w _ t ox oy _ _ c3, Result.andThen_ok, run_neq_struct, key g1 hx hy]
          rfl
        · exact .inl h
    · exact .inl h
  · exact .inl h
end Go.Vm
