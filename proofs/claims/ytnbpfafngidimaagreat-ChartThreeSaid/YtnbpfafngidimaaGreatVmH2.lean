/- Two structs of whole numbers are compared rightly; no conditions. -/
import Derived.Test.YtnbpfafngidimaaGreatVmH
import Derived.Laws.StructEq
namespace Go.Vm
set_option linter.unusedVariables false
set_option linter.unusedSimpArgs false

/-! ### Two structs of whole numbers compared -/
def eqFieldsE {R : Type} (P : Program) (xs ys : List Value) : List Field → (Bool → Option R) → Option R
  | [], k => k true
  | f :: fs, k =>
    bif f.name == "_" then none
    else loadE P f.type xs f.offset fun a => loadE P f.type ys f.offset fun b =>
      match a, b with
      | .int ka x, .int kb y => bif decide (ka = kb) then forceB (x == y) fun t => match t with
          | true => eqFieldsE P xs ys fs k
          | false => k false
        else none
      | _, _ => none

def intFields (P : Program) : List Field → Bool
  | [] => true
  | f :: fs => (match P.underlying f.type with | some (.int _) => true | _ => false) && intFields P fs

theorem eqFieldsE_sound {R : Type} {P : Program} {xs ys : List Value} {d : Nat} : ∀ {fs : List Field} {k : Bool → Option R} {r : R}, intFields P fs = true → eqFieldsE P xs ys fs k = some r →
    ∃ b, k b = some r ∧ ∀ {ρ : Map} {w : World} {xs' ys' : List Value}, VRels ρ xs xs' → VRels ρ ys ys' → (Op.eqFields (d + 1) ⟨xs'⟩ ⟨ys'⟩ fs).run P w = .ok b w
  | [], k, r, _, h => ⟨true, h, fun _ _ => rfl⟩
  | f :: fs, k, r, hi, h => by
    simp only [intFields, Bool.and_eq_true] at hi
    obtain ⟨hi1, hi2⟩ := hi
    unfold eqFieldsE at h
    cases hn : (f.name == "_") with
    | true => rw [hn] at h; cases h
    | false =>
      rw [hn] at h
      simp only [cond_false] at h
      obtain ⟨a, h1, g1⟩ := run_part h
      obtain ⟨b, h2, g2⟩ := run_part h1
      split at h2
      · rename_i ka x kb y
        cases hk : decide (ka = kb) with
        | false => rw [hk] at h2; cases h2
        | true =>
          rw [hk] at h2
          have hkk := of_decide_eq_true hk
          subst hkk
          simp only [cond_true] at h2
          rw [forceB_eq] at h2
          have hname : f.name ≠ "_" := by simpa using hn
          have hu : ∃ kk, P.underlying f.type = some (.int kk) := by
            split at hi1
            · exact ⟨_, ‹_›⟩
            · cases hi1
          obtain ⟨kk, hu⟩ := hu
          cases hxy : (x == y) with
          | false =>
            rw [hxy] at h2
            refine ⟨false, h2, fun {ρ w xs' ys'} hx hy => ?_⟩
            obtain ⟨a', e1, r1⟩ := g1 hx (w := w)
            obtain ⟨b', e2, r2⟩ := g2 hy (w := w)
            cases r1; cases r2
            unfold Op.eqFields
            rw [if_pos hname]
            simp only [Sem.run_bind, e1, e2, Result.andThen_ok, run_equalIn_int (P := P) w d f.type _ _ x y hu, hxy]
            simp
          | true =>
            rw [hxy] at h2
            simp only at h2
            obtain ⟨b, h3, g3⟩ := eqFieldsE_sound (d := d) hi2 h2
            refine ⟨b, h3, fun {ρ w xs' ys'} hx hy => ?_⟩
            obtain ⟨a', e1, r1⟩ := g1 hx (w := w)
            obtain ⟨b', e2, r2⟩ := g2 hy (w := w)
            cases r1; cases r2
            unfold Op.eqFields
            rw [if_pos hname]
            simp only [Sem.run_bind, e1, e2, Result.andThen_ok, run_equalIn_int (P := P) w d f.type _ _ x y hu, hxy]
            simp
            exact g3 hx hy
      · cases h2

def eqAggE {R : Type} (P : Program) (op : BinOp) (t : TypeId) (x y : Value) (k : Value → Option R) (other : Option R) : Option R :=
  match x, y with
  | .agg ⟨xs⟩, .agg ⟨ys⟩ =>
    match P.underlying t with
    | some (.struct fs) =>
      bif intFields P fs.toList && !(P.stoodInHeld t) && !(P.eqGuardType P.depth t) then
        match op with
        | .eql => eqFieldsE P xs ys fs.toList fun b => k (.bool b)
        | .neq => eqFieldsE P xs ys fs.toList fun b => k (.bool (!b))
        | _ => other
      else other
    | _ => other
  | _, _ => other

theorem eqAggE_sound {R : Type} {P : Program} {op : BinOp} {t : TypeId} {ox oy : Operand} {x y : Value} {k : Value → Option R} {other : Option R} {r : R} (h : eqAggE P op t x y k other = some r) :
    other = some r ∨ ∃ v, k v = some r ∧ flat v = true ∧ ∀ {ρ : Map} {w : World} {x' y' : Value}, VRel ρ x x' → VRel ρ y y' → ((do eqGuard op t ox oy x' y'; binOp op t x' y') : Sem Value).run P w = .ok v w := by
  unfold eqAggE at h
  split at h
  · rename_i xs ys
    split at h
    · rename_i fs hu
      cases hc : (intFields P fs.toList && !(P.stoodInHeld t) && !(P.eqGuardType P.depth t)) with
      | false => rw [hc] at h; exact .inl h
      | true =>
        rw [hc] at h
        simp only [Bool.and_eq_true, Bool.not_eq_true'] at hc
        obtain ⟨⟨c1, c2⟩, c3⟩ := hc
        have hf : P.fieldsOf t = fs := by unfold Program.fieldsOf; rw [hu]
        have key : ∀ {b : Bool} {ρ : Map} {w : World} {xs' ys' : List Value}, (∀ {ρ : Map} {w : World} {xs' ys' : List Value}, VRels ρ xs xs' → VRels ρ ys ys' → (Op.eqFields (9998 + 1) ⟨xs'⟩ ⟨ys'⟩ fs.toList).run P w = .ok b w) →
            VRels ρ xs xs' → VRels ρ ys ys' → (Op.equalIn 10000 t (.agg ⟨xs'⟩) (.agg ⟨ys'⟩)).run P w = .ok b w := fun {b ρ w xs' ys'} g hx hy => by
          rw [show (10000 : Nat) = 9999 + 1 from rfl, run_equalIn_agg w 9999 t _ _ (by rw [hf]; exact hu) c2, hf]
          exact g hx hy
        simp only [cond_true] at h
        split at h
        · obtain ⟨b, h1, g1⟩ := eqFieldsE_sound (d := 9998) c1 h
          refine .inr ⟨_, h1, rfl, fun {ρ w x' y'} hx hy => ?_⟩
          cases hx with | agg hx =>
          cases hy with | agg hy =>
          rw [Sem.run_bind, run_eqGuard_agg w _ t ox oy _ _ c3, Result.andThen_ok, run_eql_struct, key g1 hx hy]
          rfl
        · obtain ⟨b, h1, g1⟩ := eqFieldsE_sound (d := 9998) c1 h
          refine .inr ⟨_, h1, rfl, fun {ρ w x' y'} hx hy => ?_⟩
          cases hx with | agg hx =>
          cases hy with | agg hy =>
          rw [Sem.run_bind, run_eqGuard_agg w _ t ox oy _ _ c3, Result.andThen_ok, run_neq_struct, key g1 hx hy]
          rfl
        · exact .inl h
    · exact .inl h
  · exact .inl h
end Go.Vm
