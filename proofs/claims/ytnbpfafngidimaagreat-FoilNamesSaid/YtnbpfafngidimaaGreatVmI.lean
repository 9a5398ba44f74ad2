/- One operation that calls nothing is right; no conditions. Calls are right, if what is told of the called functions is right. One region in its order is right; the quick test of a region that draws its order. A region that draws its order is right in each order. A body that puts off the built-in clear does as the abstract memory tells; no conditions. The evaluator is right: what evFn tells of a call holds of each run of it; the program follows mixed orders. -/
import Derived.Test.YtnbpfafngidimaaGreatVmF
import Derived.LoopN
import Derived.Defers
import Derived.Lib.SliceRun
namespace Go.Vm
set_option linter.unusedVariables false
set_option linter.unusedSimpArgs false

def optE (e : Env) : Option Operand → Option (Option Value)
  | none => some none
  | some x => (opd e x).bind fun v => some (some v)

theorem optE_rel {ρ : Map} {e : Env} {a : Act} (he : EnvRel ρ e a.tmps) {x : Option Operand} {v : Option Value} (h : optE e x = some v) : ORel ρ v (x.map a.eval) := by
  cases x with
  | none => simp [optE] at h; subst h; exact .none
  | some x =>
    obtain ⟨u, h1, h⟩ := bind_some' h
    cases h
    exact .some (opd_rel he h1)

/-- Where numbers that are none may come. -/
def nanIf {R : Type} (nn : Bool) (f : Option R → Option R) (other : Option R) : Option R := match nn with | true => f other | false => other
theorem nanIf_some {R : Type} {nn : Bool} {f : Option R → Option R} {other : Option R} {r : R} (h : nanIf nn f other = some r) : other = some r ∨ f other = some r := by
  cases nn
  · exact .inl h
  · exact .inr h

/-- One operation that is no call of a Go function. -/
def evOp {R : Type} (nn : Bool) (fi : Fi) (P : Program) (lo : Nat) (e : Env) (H : AH) (o : Oper) (k : Value → AH → Option R) : Option R :=
  match o.op with
  | .move x => (opd e x).bind fun v => k v H
  | .assign x => (opd e x).bind fun v => k v H
  | .pick c x y => (opd e c).bind fun c => pickE c (opd e x) (opd e y) fun v => k v H
  | .alloc t => allocE P H t k
  | .box t x => (opd e x).bind fun v => newE H v.cells.toList k
  | .build t ps => (partsE e ps.toList).bind fun vs => buildE P t vs fun v => k v H
  | .buildSlice t n ps => (partsE e ps.toList).bind fun vs => buildSliceE P H t n vs k
  | .load t x => (opd e x).bind fun v =>
      match v with
      | .pointer (some ad) =>
        match look ad.block H.objs with
        | some (.cells cs _) => loadE P t cs ad.off fun v => k v H
        | _ => none
      | _ => none
  | .store t x y => (opd e x).bind fun p => (opd e y).bind fun v =>
      match p with
      | .pointer (some ad) => storeE P lo H t ad v fun H' => k undef H'
      | _ => none
  | .nilCheck x => (opd e x).bind fun v => nilCheckE v fun v => k v H
  | .binOp op t x y _ => (opd e x).bind fun u => (opd e y).bind fun v => nanIf nn (nanBinE op u v fun v => k v H) (binE fi op u v (fun v => k v H) (eqAggE P op t u v (fun v => k v H) (eqNilE P op t u v (fun v => k v H) (calmOp P e H o k))))
  | .unOp op t x => (opd e x).bind fun u => unE op u (fun v => k v H) (calmOp P e H o k)
  | .convert s d x => (opd e x).bind fun u => convE fi P s d u (fun v => k v H) (calmOp P e H o k)
  | .makeInterface t x => (opd e x).bind fun u => makeIfaceE P t u fun v => k v H
  | .makeFunc f xs ys => (opds e xs.toList).bind fun us => (opds e ys.toList).bind fun vs => k (.func f ⟨us⟩ ⟨vs⟩) H
  | .makeSlice t l c => (opd e l).bind fun u => (opd e c).bind fun v => makeSliceE P H t u v k
  | .slice t x l h none => (opd e x).bind fun v => (optE e l).bind fun l => (optE e h).bind fun h => sliceE P H t v l h k
  | .fieldAddr s x f => (opd e x).bind fun v => fieldAddrE P s v f fun v => k v H
  | .field t x f => (opd e x).bind fun v => fieldE P t v f fun v => k v H
  | .indexAddr t x i => (opd e x).bind fun v => (opd e i).bind fun i => indexAddrE P t v i fun v => k v H
  | .index t x i => (opd e x).bind fun v => (opd e i).bind fun i => match v with
      | .string _ => calmOp P e H o k
      | v => indexE P t v i fun v => k v H
  | .typeAssert x _ t c => (opd e x).bind fun v => assertE P v t c fun v => k v H
  | .extract x i => (opd e x).bind fun v => extractE v i fun v => k v H
  | .makeMap t h => (optE e h).bind fun h => mapMakeE P H t h k
  | .lookup t x i ok => (opd e x).bind fun m => (opd e i).bind fun i => mapGetE P H t m i ok fun v => k v H
  | .mapUpdate t x i y => (opd e x).bind fun m => (opd e i).bind fun i => (opd e y).bind fun y => mapPutE P lo H t m i y fun H' => k undef H'
  | .insert t x i y => (opd e x).bind fun m => (opd e i).bind fun i => (opd e y).bind fun y => mapPutE P lo H t m i y fun H' => k undef H'
  | .call { callee := .builtin .append, args := xs, argTypes := ts } => (opds e xs.toList).bind fun vs =>
      match vs with
      | [s, x] => appendX P lo H ts.toList s x k
      | _ => none
  | .call { callee := .builtin .copy, args := xs, argTypes := ts } => (opds e xs.toList).bind fun vs =>
      match vs with
      | [d, s] => copyE P lo H ts.toList d s k
      | _ => none
  | .call { callee := .builtin b, args := xs, argTypes := ts } => (opds e xs.toList).bind fun vs => nanIf nn (nanBuiltinE b vs fun v => k v H) (builtinE P b ts vs (fun v => k v H) (calmOp P e H o k))
  | _ => none

theorem Done.flat {P : Program} {lo : Nat} {o : Oper} {a : Act} {ρ : Map} {H : AH} {w : World} {v : Value} (hi : Inv ρ H w) (hf : flat v = true)
    (hr : (execOp a.eval o).run P w = .ok (.value v) w) : Done P lo o a ρ H w v H := Done.calm hi hr (VRel.ofFlat ρ hf)

theorem evOp_sound {R : Type} {P : Program} {lo : Nat} {e : Env} {H : AH} {o : Oper} {k : Value → AH → Option R} {r : R} {nn : Bool} {fi : Fi} (hfi : fi.Fair) (h : evOp nn fi P lo e H o k = some r) :
    ∃ v H', k v H' = some r ∧ ∀ {ρ : Map} {w : World} {a : Act}, Inv ρ H w → lo ≤ H.next → EnvRel ρ e a.tmps → Done P lo o a ρ H w v H' := by
  have hcalm := fun h => calmOp_sound (lo := lo) (P := P) (e := e) (H := H) (o := o) (k := k) (r := r) h
  unfold evOp at h
  split at h
  · rename_i x ho
    obtain ⟨v, h1, h⟩ := bind_some' h
    exact ⟨v, H, h, fun {ρ w a} hi hlo he => Done.value (w' := w) (by simp [execOp, ho]) (Next.refl hi) (opd_rel he h1)⟩
  · rename_i x ho
    obtain ⟨v, h1, h⟩ := bind_some' h
    exact ⟨v, H, h, fun {ρ w a} hi hlo he => Done.value (w' := w) (by simp [execOp, ho]) (Next.refl hi) (opd_rel he h1)⟩
  · rename_i c x y ho
    obtain ⟨v, h1, h⟩ := bind_some' h
    unfold pickE at h
    split at h
    · rename_i t
      have hrun : ∀ {ρ : Map} {w : World} {a : Act}, EnvRel ρ e a.tmps → (execOp a.eval o).run P w = .ok (.value (if t then a.eval x else a.eval y)) w := fun {ρ w a} he => by
        have hc := opd_rel he h1
        generalize hec : a.eval c = c' at hc
        cases hc
        simp [execOp, ho, hec, asBool]
      split at h
      · rename_i u v hx hy
        refine ⟨_, H, h, fun {ρ w a} hi hlo he => Done.value (w' := w) (hrun he) (Next.refl hi) ?_⟩
        have r1 := opd_rel he hx
        have r2 := opd_rel he hy
        generalize a.eval x = x' at *
        generalize a.eval y = y' at *
        cases r1; cases r2
        cases t <;> exact .bool _
      · cases t with
        | true =>
          obtain ⟨v, h2, h⟩ := bind_some' (by simpa using h)
          exact ⟨v, H, h, fun {ρ w a} hi hlo he => Done.value (w' := w) (hrun he) (Next.refl hi) (opd_rel he h2)⟩
        | false =>
          obtain ⟨v, h2, h⟩ := bind_some' (by simpa using h)
          exact ⟨v, H, h, fun {ρ w a} hi hlo he => Done.value (w' := w) (hrun he) (Next.refl hi) (opd_rel he h2)⟩
    · cases h
  · rename_i t ho
    obtain ⟨v, H', g1, g2⟩ := allocE_sound (lo := lo) h ho
    exact ⟨v, H', g1, fun hi hlo he => g2 hi hlo⟩
  · rename_i t x ho
    obtain ⟨v, h1, h⟩ := bind_some' h
    obtain ⟨u, H', g1, g2⟩ := boxE_sound (P := P) (lo := lo) h ho
    exact ⟨u, H', g1, fun hi hlo he => g2 hi hlo (opd_rel he h1)⟩
  · rename_i t ps ho
    obtain ⟨vs, h1, h⟩ := bind_some' h
    obtain ⟨v, g1, g2⟩ := buildE_sound h
    refine ⟨v, H, g1, fun {ρ w a} hi hlo he => ?_⟩
    obtain ⟨v', g2, g3⟩ := g2 (w := w) (partsE_rel he h1)
    refine Done.value (w' := w) ?_ (Next.refl hi) g3
    have e1 : (ps.map fun (i, x) => (i, a.eval x)) = (ps.toList.map fun (i, x) => (i, a.eval x)).toArray := by apply Array.ext'; simp
    simp only [execOp, ho, e1, Sem.run_bind, g2, Result.andThen_ok, Sem.run_pure]
  · rename_i t n ps ho
    obtain ⟨vs, h1, h⟩ := bind_some' h
    obtain ⟨v, H', g1, g2⟩ := buildSliceE_sound (lo := lo) h ho
    exact ⟨v, H', g1, fun hi hlo he => g2 hi hlo (partsE_rel he h1)⟩
  · rename_i t x ho
    obtain ⟨v, h1, h⟩ := bind_some' h
    split at h
    · rename_i ad
      split at h
      · rename_i cs sz hl
        obtain ⟨v, g1, g2⟩ := loadE_sound h
        refine ⟨v, H, g1, fun {ρ w a} hi hlo he => ?_⟩
        have hx := opd_rel he h1
        generalize hex : a.eval x = x' at hx
        cases hx with
        | @ptr kb off sp hk =>
          obtain ⟨s, e1, e2⟩ := hi.rel.obj _ _ (look_mem hl)
          rw [hk] at e1
          cases e1
          obtain ⟨v', g2, g3⟩ := g2 e2
          exact Done.value (w' := w) (by simp [execOp, ho, hex, Instr.loadAt, Instr.sureAddr, g2]) (Next.refl hi) g3
      · cases h
    · cases h
  · rename_i t x y ho
    obtain ⟨p, h1, h⟩ := bind_some' h
    obtain ⟨v, h2, h⟩ := bind_some' h
    split at h
    · rename_i ad
      obtain ⟨H', g1, g2⟩ := storeE_sound h
      refine ⟨undef, H', g1, fun {ρ w a} hi hlo he => ?_⟩
      have hx := opd_rel he h1
      have hy := opd_rel he h2
      generalize hex : a.eval x = x' at hx
      cases hx with
      | @ptr kb off sp hk =>
        obtain ⟨w', g2, g3⟩ := g2 hi (.ptr hk) hy
        exact Done.skip (by simp [execOp, ho, hex, Instr.storeAt, Instr.sureAddr, g2]) g3
    · cases h
  · rename_i x ho
    obtain ⟨v, h1, h⟩ := bind_some' h
    obtain ⟨v, g1, g2⟩ := nilCheckE_sound (P := P) (lo := lo) (H := H) h ho
    exact ⟨v, H, g1, fun hi hlo he => g2 hi (opd_rel he h1)⟩
  · rename_i op t x y yt ho
    obtain ⟨u, h1, h⟩ := bind_some' h
    obtain ⟨v, h2, h⟩ := bind_some' h
    have rest : binE fi op u v (fun v => k v H) (eqAggE P op t u v (fun v => k v H) (eqNilE P op t u v (fun v => k v H) (calmOp P e H o k))) = some r →
        ∃ v, ∃ H', k v H' = some r ∧ ∀ {ρ : Map} {w : World} {a : Act}, Inv ρ H w → lo ≤ H.next → EnvRel ρ e a.tmps → Done P lo o a ρ H w v H' := by
      intro h
      rcases binE_sound (P := P) (t := t) (ox := x) (oy := y) hfi h with h | ⟨v, g1, g2, g3⟩
      · rcases eqAggE_sound (P := P) (ox := x) (oy := y) h with h | ⟨v, g1, g2, g3⟩
        · rcases eqNilE_sound (P := P) (ox := x) (oy := y) h with h | ⟨v, g1, g2, g3⟩
          · exact hcalm h
          · refine ⟨v, H, g1, fun {ρ w a} hi hlo he => Done.flat hi g2 ?_⟩
            simp only [execOp, ho]
            rw [Sem.run_bind, g3 (opd_rel he h1) (opd_rel he h2)]
            rfl
        · refine ⟨v, H, g1, fun {ρ w a} hi hlo he => Done.flat hi g2 ?_⟩
          simp only [execOp, ho]
          rw [Sem.run_bind, g3 (opd_rel he h1) (opd_rel he h2)]
          rfl
      · refine ⟨v, H, g1, fun {ρ w a} hi hlo he => Done.flat hi g2 ?_⟩
        simp only [execOp, ho]
        rw [Sem.run_bind, g3 (opd_rel he h1) (opd_rel he h2)]
        rfl
    rcases nanIf_some h with h | h
    · exact rest h
    · rcases nanBinE_sound (P := P) (lo := lo) (H := H) ho h with h | ⟨v, g1, g2⟩
      · exact rest h
      · exact ⟨v, H, g1, fun hi hlo he => g2 hi (opd_rel he h1) (opd_rel he h2)⟩
  · rename_i op t x ho
    obtain ⟨u, h1, h⟩ := bind_some' h
    rcases unE_sound (P := P) h with h | ⟨v, g1, g2, g3⟩
    · exact hcalm h
    · exact ⟨v, H, g1, fun {ρ w a} hi hlo he => Done.flat hi g2 (by simp [execOp, ho, g3 (opd_rel he h1)])⟩
  · rename_i s d x ho
    obtain ⟨u, h1, h⟩ := bind_some' h
    rcases convE_sound (P := P) hfi h with h | ⟨v, g1, g2, g3⟩
    · exact hcalm h
    · exact ⟨v, H, g1, fun {ρ w a} hi hlo he => Done.flat hi g2 (by simp [execOp, ho, g3 (opd_rel he h1)])⟩
  · rename_i t x ho
    obtain ⟨v, h1, h⟩ := bind_some' h
    obtain ⟨v, g1, g2⟩ := makeIfaceE_sound (lo := lo) (H := H) h ho
    exact ⟨v, H, g1, fun hi hlo he => g2 hi (opd_rel he h1)⟩
  · rename_i f xs ys ho
    obtain ⟨us, h1, h⟩ := bind_some' h
    obtain ⟨vs, h2, h⟩ := bind_some' h
    refine ⟨_, H, h, fun {ρ w a} hi hlo he => Done.value (w' := w) (v' := .func f ⟨xs.toList.map a.eval⟩ ⟨ys.toList.map a.eval⟩) ?_ (Next.refl hi) (.func f (opds_rel he h1) (opds_rel he h2))⟩
    have e1 : xs.map a.eval = ⟨xs.toList.map a.eval⟩ := by apply Array.ext'; simp
    have e2 : ys.map a.eval = ⟨ys.toList.map a.eval⟩ := by apply Array.ext'; simp
    simp [execOp, ho, Instr.makeFunc, e1, e2]
  · rename_i t l c ho
    obtain ⟨u, h1, h⟩ := bind_some' h
    obtain ⟨v, h2, h⟩ := bind_some' h
    obtain ⟨v, H', g1, g2⟩ := makeSliceE_sound (lo := lo) h ho
    exact ⟨v, H', g1, fun hi hlo he => g2 hi hlo (opd_rel he h1) (opd_rel he h2)⟩
  · rename_i t x l hh ho
    obtain ⟨v, h1, h⟩ := bind_some' h
    obtain ⟨l', h2, h⟩ := bind_some' h
    obtain ⟨h', h3, h⟩ := bind_some' h
    obtain ⟨v, H', g1, g2⟩ := sliceE_sound (lo := lo) (H := H) h ho
    exact ⟨v, H', g1, fun hi hlo he => g2 hi (opd_rel he h1) (optE_rel he h2) (optE_rel he h3)⟩
  · rename_i s x f ho
    obtain ⟨v, h1, h⟩ := bind_some' h
    obtain ⟨v, g1, g2⟩ := fieldAddrE_sound (lo := lo) (H := H) h ho
    exact ⟨v, H, g1, fun hi hlo he => g2 hi (opd_rel he h1)⟩
  · rename_i t x f ho
    obtain ⟨v, h1, h⟩ := bind_some' h
    obtain ⟨v, g1, g2⟩ := fieldE_sound (lo := lo) (H := H) h ho
    exact ⟨v, H, g1, fun hi hlo he => g2 hi (opd_rel he h1)⟩
  · rename_i t x i ho
    obtain ⟨v, h1, h⟩ := bind_some' h
    obtain ⟨u, h2, h⟩ := bind_some' h
    obtain ⟨v, g1, g2⟩ := indexAddrE_sound (lo := lo) (H := H) h ho
    exact ⟨v, H, g1, fun hi hlo he => g2 hi (opd_rel he h1) (opd_rel he h2)⟩
  · rename_i t x i ho
    obtain ⟨v, h1, h⟩ := bind_some' h
    obtain ⟨u, h2, h⟩ := bind_some' h
    split at h
    · exact hcalm h
    · obtain ⟨v, g1, g2⟩ := indexE_sound (lo := lo) (H := H) h ho
      exact ⟨v, H, g1, fun hi hlo he => g2 hi (opd_rel he h1) (opd_rel he h2)⟩
  · rename_i x xt t c ho
    obtain ⟨v, h1, h⟩ := bind_some' h
    obtain ⟨v, g1, g2⟩ := assertE_sound (lo := lo) (H := H) h ho
    exact ⟨v, H, g1, fun hi hlo he => g2 hi (opd_rel he h1)⟩
  · rename_i x i ho
    obtain ⟨v, h1, h⟩ := bind_some' h
    obtain ⟨v, g1, g2⟩ := extractE_sound (P := P) (lo := lo) (H := H) h ho
    exact ⟨v, H, g1, fun hi hlo he => g2 hi (opd_rel he h1)⟩
  · rename_i t hh ho
    obtain ⟨v, h1, h⟩ := bind_some' h
    obtain ⟨v, H', g1, g2⟩ := mapMakeE_sound (lo := lo) h ho
    exact ⟨v, H', g1, fun hi hlo he => g2 hi hlo (optE_rel he h1)⟩
  · rename_i t x i ok ho
    obtain ⟨m, h1, h⟩ := bind_some' h
    obtain ⟨u, h2, h⟩ := bind_some' h
    obtain ⟨v, g1, g2⟩ := mapGetE_sound (lo := lo) h ho
    exact ⟨v, H, g1, fun hi hlo he => g2 hi (opd_rel he h1) (opd_rel he h2)⟩
  · rename_i t x i y ho
    obtain ⟨m, h1, h⟩ := bind_some' h
    obtain ⟨u, h2, h⟩ := bind_some' h
    obtain ⟨v, h3, h⟩ := bind_some' h
    obtain ⟨H', g1, g2⟩ := mapPutE_sound h (.inl ho)
    exact ⟨undef, H', g1, fun hi hlo he => g2 hi (opd_rel he h1) (opd_rel he h2) (opd_rel he h3)⟩
  · rename_i t x i y ho
    obtain ⟨m, h1, h⟩ := bind_some' h
    obtain ⟨u, h2, h⟩ := bind_some' h
    obtain ⟨v, h3, h⟩ := bind_some' h
    obtain ⟨H', g1, g2⟩ := mapPutE_sound h (.inr ho)
    exact ⟨undef, H', g1, fun hi hlo he => g2 hi (opd_rel he h1) (opd_rel he h2) (opd_rel he h3)⟩
  · rename_i xs ts ho
    obtain ⟨vs, h1, h⟩ := bind_some' h
    split at h
    · rename_i s x
      obtain ⟨v, H', g1, g2⟩ := appendX_sound (lo := lo) h
      refine ⟨v, H', g1, fun {ρ w a} hi hlo he => ?_⟩
      have hr := opds_rel he h1
      obtain ⟨cs, hrun⟩ := run_call_builtin (P := P) (a := a) (w := w) ho rfl
      have e1 : xs.map a.eval = ⟨xs.toList.map a.eval⟩ := by apply Array.ext'; simp
      generalize xs.toList.map a.eval = l at *
      cases hr with
      | cons r1 r2 =>
        cases r2 with
        | cons r2 r3 =>
          cases r3
          obtain ⟨ρ', w', v', q1, q2, q3⟩ := g2 (ty := o.type) hi hlo r1 r2
          refine Done.value ?_ q2 q3
          rw [hrun]
          simp only [e1, builtin, Sem.run_bind]
          rw [show (⟨ts.toList⟩ : Array TypeId) = ts from rfl] at q1
          rw [q1]
          rfl
    · cases h
  · rename_i xs ts ho
    obtain ⟨vs, h1, h⟩ := bind_some' h
    split at h
    · rename_i s x
      obtain ⟨v, H', g1, g2⟩ := copyE_sound (lo := lo) h
      refine ⟨v, H', g1, fun {ρ w a} hi hlo he => ?_⟩
      have hr := opds_rel he h1
      obtain ⟨cs, hrun⟩ := run_call_builtin (P := P) (a := a) (w := w) ho rfl
      have e1 : xs.map a.eval = ⟨xs.toList.map a.eval⟩ := by apply Array.ext'; simp
      generalize xs.toList.map a.eval = l at *
      cases hr with
      | cons r1 r2 =>
        cases r2 with
        | cons r2 r3 =>
          cases r3
          obtain ⟨ρ', w', v', q1, q2, q3⟩ := g2 (ty := o.type) hi hlo r1 r2
          refine Done.value ?_ q2 q3
          rw [hrun]
          simp only [e1, builtin, Sem.run_bind]
          rw [show (⟨ts.toList⟩ : Array TypeId) = ts from rfl] at q1
          rw [q1]
          rfl
    · cases h
  · rename_i b xs ts _n1 _n2 ho
    obtain ⟨vs, h1, h⟩ := bind_some' h
    have rest : builtinE P b ts vs (fun v => k v H) (calmOp P e H o k) = some r →
        ∃ v, ∃ H', k v H' = some r ∧ ∀ {ρ : Map} {w : World} {a : Act}, Inv ρ H w → lo ≤ H.next → EnvRel ρ e a.tmps → Done P lo o a ρ H w v H' := by
      intro h
      rcases builtinE_sound (P := P) (ty := o.type) h with h | ⟨v, g1, g2, g3⟩
      · exact hcalm h
      · refine ⟨v, H, g1, fun {ρ w a} hi hlo he => Done.flat hi g2 ?_⟩
        obtain ⟨cs, hrun⟩ := run_call_builtin (P := P) (a := a) (w := w) ho rfl
        rw [hrun]
        have e1 : xs.map a.eval = ⟨xs.toList.map a.eval⟩ := by apply Array.ext'; simp
        rw [e1]
        exact g3 (opds_rel he h1)
    rcases nanIf_some h with h | h
    · exact rest h
    · rcases nanBuiltinE_sound (P := P) (ts := ts) (ty := o.type) h with h | ⟨v, g1, g2⟩
      · exact rest h
      · refine ⟨v, H, g1, fun {ρ w a} hi hlo he => ?_⟩
        obtain ⟨cs, hrun⟩ := run_call_builtin (P := P) (a := a) (w := w) ho rfl
        obtain ⟨v', k1, k2⟩ := g2 (w := w) (cs := cs) (opds_rel he h1)
        have e1 : xs.map a.eval = ⟨xs.toList.map a.eval⟩ := by apply Array.ext'; simp
        rw [← e1] at k1
        exact Done.value (w' := w) (by rw [hrun]; exact k1) (Next.refl hi) k2
  · cases h

end Go.Vm
namespace Go.Vm
set_option linter.unusedVariables false
set_option linter.unusedSimpArgs false

/-! ### What is told of the program's functions ahead of the evaluation -/
abbrev Sum := ∀ R : Type, List Value → (Value → Option R) → Option R

/-- of arguments that may name what is there: read alone -/
abbrev HSum := ∀ R : Type, List Value → AH → (Value → Option R) → Option R

structure Cx where
  P : Program
  /- functions with a body whose contract is used in their place -/
  sums : FuncId → Option Sum
  /- functions without a body -/
  exts : FuncId → Option Sum
  /- methods of values in interfaces -/
  meths : TypeId → String → Option FuncId
  /- may it write to what is there? -/
  wild : FuncId → Bool
  fi : Fi
  /- may what is no number come? -/
  nn : Bool
  /- functions of a float that make of what is no number what is none -/
  nan1 : FuncId → Bool
  /- functions that put off the built-in clear -/
  defs : FuncId → Bool
  /- what single calls answer, told ahead -/
  hs : FuncId → List Value → AH → Option Value
  /- contracts of functions that read what is there -/
  gs : FuncId → Option HSum := fun _ => none
  /- what single calls answer and leave in memory, told ahead -/
  ms : FuncId → List Value → AH → Option (Value × AH) := fun _ _ _ => none

def HSumOk (P : Program) (f : FuncId) (g : HSum) : Prop :=
  ∀ (R : Type) (args : List Value) (H : AH) (k : Value → Option R) (r : R), g R args H k = some r → ∃ v, k v = some r ∧ flat v = true ∧
    ∀ (ρ : Map) (w : World) (args' : List Value), Inv ρ H w → VRels ρ args args' → Calls P f ⟨args'⟩ w fun e w' => e = .returned v ∧ RowKit.Below w.heap.size w w'

def SumOk (P : Program) (f : FuncId) (g : Sum) : Prop :=
  ∀ (R : Type) (args : List Value) (k : Value → Option R) (r : R), g R args k = some r → inns 0 args = true ∧ ∃ v, k v = some r ∧ flat v = true ∧
    ∀ w, Calls P f ⟨args⟩ w fun e w' => e = .returned v ∧ RowKit.Below w.heap.size w w'

def ExtOk (P : Program) (f : FuncId) (g : Sum) : Prop :=
  ∀ (R : Type) (args : List Value) (k : Value → Option R) (r : R), g R args k = some r → inns 0 args = true ∧ ∃ v, k v = some r ∧ flat v = true ∧
    ∀ w, (callFunc f ⟨args⟩).run P w = .ok (.value v) w

structure Cx.Ok (C : Cx) : Prop where
  fair : C.fi.Fair
  sums : ∀ f g, C.sums f = some g → SumOk C.P f g ∧ ∃ fn c, C.P.funcs[f]? = some fn ∧ (fn.name == "runtime.NumGoroutine") = false ∧ fn.body = some c
  exts : ∀ f g, C.exts f = some g → ExtOk C.P f g
  meths : ∀ t s f, C.meths t s = some f → ∀ v w, (method (C.P.types.size + Made.depth) t v s).run C.P w = .ok (f, v) w
  hs : ∀ f args H v, C.hs f args H = some v → (∃ fn c, C.P.funcs[f]? = some fn ∧ (fn.name == "runtime.NumGoroutine") = false ∧ fn.body = some c) ∧ flat v = true ∧
    ∀ (ρ : Map) (w : World) (args' : List Value), Inv ρ H w → VRels ρ args args' → Calls C.P f ⟨args'⟩ w fun e w' => e = .returned v ∧ RowKit.Below w.heap.size w w'
  nan1 : ∀ f, C.nan1 f = true → (∃ fn c, C.P.funcs[f]? = some fn ∧ (fn.name == "runtime.NumGoroutine") = false ∧ fn.body = some c) ∧
    ∀ b, nanW b = true → ∀ w, Calls C.P f ⟨[.float .f64 b]⟩ w fun e w' => (∃ c, nanW c = true ∧ e = .returned (.float .f64 c)) ∧ RowKit.Below w.heap.size w w'

  gs : ∀ f g, C.gs f = some g → HSumOk C.P f g ∧ ∃ fn c, C.P.funcs[f]? = some fn ∧ (fn.name == "runtime.NumGoroutine") = false ∧ fn.body = some c := by intro f g h; cases h
  ms : ∀ f args H p, C.ms f args H = some p → (∃ fn c, C.P.funcs[f]? = some fn ∧ (fn.name == "runtime.NumGoroutine") = false ∧ fn.body = some c) ∧
    ∀ (lo : Nat) (ρ : Map) (w : World) (args' : List Value), Inv ρ H w → lo ≤ H.next → VRels ρ args args' → Calls C.P f ⟨args'⟩ w fun e w' => ∃ ρ' v', e = .returned v' ∧ VRel ρ' p.1 v' ∧ Next lo ρ H w ρ' p.2 w' := by intro f args H p h; cases h

/-! ### Leaving a code -/
inductive Ex where
  | normal
  | exit (id : Nat)
  | ret

def Ex.to : Ex → Exit
  | .normal => .normal
  | .exit id => .exit id
  | .ret => .ret

/-! ### Calls -/
abbrev Cal (R : Type) := Nat → FuncId → Func → Code → List Value → AH → (Value → AH → Option R) → Option R

/-- What a callee left behind is forgotten where its result does not name it. -/
def tidy (H H' : AH) (v : Value) : AH := bif inn H.next v then H else H'

def bodyE {R : Type} (C : Cx) (cal : Cal R) (lo : Nat) (f : FuncId) (args : List Value) (H : AH) (k : Value → AH → Option R) : Option R :=
  match C.P.funcs[f]? with
  | none => none
  | some fn =>
    match fn.body with
    | some c =>
      bif !(fn.name == "runtime.NumGoroutine") then
        bif C.wild f then cal lo f fn c args H k
        else cal H.next f fn c args H fun v H' => k v (tidy H H' v)
      else none
    | none =>
      bif inns 0 args then
        match calm C.P (callFunc f ⟨args⟩) with
        | some (.value v) => bif flat v then k v H else none
        | _ => none
      else none

def extE {R : Type} (C : Cx) (cal : Cal R) (lo : Nat) (f : FuncId) (args : List Value) (H : AH) (k : Value → AH → Option R) : Option R :=
  match C.exts f with
  | some g => g R args fun v => k v H
  | none => bodyE C cal lo f args H k

def oneNan (args : List Value) : Bool := match args with | [.float .f32 _] => true | _ => false

def callE {R : Type} (C : Cx) (cal : Cal R) (lo : Nat) (f : FuncId) (args : List Value) (H : AH) (k : Value → AH → Option R) : Option R :=
  match C.nn with
  | false =>
    match C.gs f with
    | some g => g R args H fun v => k v H
    | none =>
      match C.sums f with
      | some g => g R args fun v => k v H
      | none => extE C cal lo f args H k
  | true =>
    bif C.nan1 f && oneNan args then k (.float .f32 0) H
    else match C.ms f args H with
      | some p => k p.1 p.2
      | none =>
      match C.hs f args H with
      | some v => k v H
      | none =>
        match C.sums f with
        | some g =>
          match g Value args some with
          | some v => k v H
          | none => bodyE C cal lo f args H k
        | none => extE C cal lo f args H k

/-- The callee's evaluator is sound. -/
def CalOk (P : Program) {R : Type} (cal : Cal R) : Prop :=
  ∀ lo f fn c args H k r, cal lo f fn c args H k = some r → P.funcs[f]? = some fn → fn.body = some c →
    ∃ v H', k v H' = some r ∧ ∀ ρ w args', Inv ρ H w → lo ≤ H.next → VRels ρ args args' → Calls P f ⟨args'⟩ w fun e w' => ∃ ρ' v', e = .returned v' ∧ VRel ρ' v v' ∧ Next lo ρ H w ρ' H' w'

theorem below_next {lo : Nat} {ρ : Map} {H : AH} {w w' : World} (hi : Inv ρ H w) (hb : RowKit.Below w.heap.size w w') : Next lo ρ H w ρ H w' :=
  Next.forget (lo := lo) (ρ' := ρ) (H' := H) hi
    { inv := ⟨hi.dom, hi.wf, hi.one, ⟨fun k o hm => let ⟨s, h1, h2⟩ := hi.rel.obj k o hm; ⟨s, h1, h2.heap (hb.block s.b h2.lt)⟩, hi.rel.inj⟩⟩
      same := fun _ _ => rfl
      nx := Nat.le_refl _
      size := hb.size
      os := hb.os
      tape := hb.tape
      output := hb.output
      keep := fun b hb' _ => hb.block b hb'
      own := fun k o s hk hm he => .inr ⟨k, o, s, hk, hm, he, rfl⟩
      old := fun _ _ _ => Iff.rfl }

/-- THE OUTCOME OF A CALL: a value at once, or a function that is entered. -/
def CallDone (P : Program) (lo : Nat) (s : Sem Go.Next) (ρ : Map) (H : AH) (w : World) (v : Value) (H' : AH) : Prop :=
  (∃ v', s.run P w = .ok (.value v') w ∧ VRel ρ v v' ∧ H' = H) ∨
  (∃ f args', s.run P w = .ok (.enter f args') w ∧ Calls P f args' w fun e w' => ∃ ρ' v', e = .returned v' ∧ VRel ρ' v v' ∧ Next lo ρ H w ρ' H' w')

theorem run_callFunc_enter {P : Program} {f : FuncId} {fn : Func} {c : Code} {args : Array Value} {w : World} (hf : P.funcs[f]? = some fn) (hn : (fn.name == "runtime.NumGoroutine") = false) (hb : fn.body = some c) :
    (callFunc f args).run P w = .ok (.enter f args) w := by
  have hn' : ¬ fn.name = "runtime.NumGoroutine" := by simpa using hn
  simp [callFunc, hf, hn', hb]

theorem bodyE_sound {R : Type} {C : Cx} {cal : Cal R} (hcal : CalOk C.P cal) {lo : Nat} {f : FuncId} {args : List Value} {H : AH} {k : Value → AH → Option R} {r : R}
    (h : bodyE C cal lo f args H k = some r) :
    ∃ v H', k v H' = some r ∧ ∀ {ρ : Map} {w : World} {args' : List Value}, Inv ρ H w → lo ≤ H.next → VRels ρ args args' → CallDone C.P lo (callFunc f ⟨args'⟩) ρ H w v H' := by
  unfold bodyE at h
  split at h
  · cases h
  · rename_i fn hf
    split at h
    · rename_i c hb
      cases hn : (fn.name == "runtime.NumGoroutine") with
      | true => rw [hn] at h; cases h
      | false =>
        rw [hn] at h
        simp only [Bool.not_false, cond_true] at h
        cases hw : C.wild f with
        | true =>
          rw [hw] at h
          obtain ⟨v, H', g1, g2⟩ := hcal _ _ _ _ _ _ _ _ h hf hb
          exact ⟨v, H', g1, fun {ρ w args'} hi hlo ha => .inr ⟨f, _, run_callFunc_enter hf hn hb, g2 ρ w args' hi hlo ha⟩⟩
        | false =>
          rw [hw] at h
          obtain ⟨v, H', g1, g2⟩ := hcal _ _ _ _ _ _ _ _ h hf hb
          refine ⟨v, tidy H H' v, g1, fun {ρ w args'} hi hlo ha => .inr ⟨f, _, run_callFunc_enter hf hn hb, (g2 ρ w args' hi (Nat.le_refl _) ha).mono ?_⟩⟩
          rintro e w' ⟨ρ', v', rfl, hv, hnx⟩
          unfold tidy
          cases hin : inn H.next v with
          | true => exact ⟨ρ, v', rfl, hv.scope hnx.same hin, hnx.forget hi⟩
          | false => exact ⟨ρ', v', rfl, hv, hnx.weaken hlo hi⟩
    · cases hfl : inns 0 args with
      | false => rw [hfl] at h; cases h
      | true =>
        rw [hfl] at h
        simp only [cond_true] at h
        split at h
        · rename_i v hc
          cases hf' : flat v with
          | false => rw [hf'] at h; cases h
          | true =>
            rw [hf'] at h
            refine ⟨v, H, h, fun {ρ w args'} hi hlo ha => ?_⟩
            have := ha.flat_eq hfl
            subst this
            exact .inl ⟨v, calm_run hc w, VRel.ofFlat ρ hf', rfl⟩
        · cases h

theorem extE_sound {R : Type} {C : Cx} {cal : Cal R} (hC : C.Ok) (hcal : CalOk C.P cal) {lo : Nat} {f : FuncId} {args : List Value} {H : AH} {k : Value → AH → Option R} {r : R}
    (h : extE C cal lo f args H k = some r) :
    ∃ v H', k v H' = some r ∧ ∀ {ρ : Map} {w : World} {args' : List Value}, Inv ρ H w → lo ≤ H.next → VRels ρ args args' → CallDone C.P lo (callFunc f ⟨args'⟩) ρ H w v H' := by
  unfold extE at h
  split at h
  · rename_i g hg
    obtain ⟨hfl, v, g1, g2, g3⟩ := hC.exts f g hg _ _ _ _ h
    refine ⟨v, H, g1, fun {ρ w args'} hi hlo ha => ?_⟩
    have := ha.flat_eq hfl
    subst this
    exact .inl ⟨v, g3 w, VRel.ofFlat ρ g2, rfl⟩
  · exact bodyE_sound hcal h

theorem sumE_sound {C : Cx} (hC : C.Ok) {lo : Nat} {f : FuncId} {g : Sum} (hg : C.sums f = some g) {R : Type} {args : List Value} {k : Value → Option R} {r : R} (h : g R args k = some r) :
    ∃ v, k v = some r ∧ ∀ {ρ : Map} {H : AH} {w : World} {args' : List Value}, Inv ρ H w → lo ≤ H.next → VRels ρ args args' → CallDone C.P lo (callFunc f ⟨args'⟩) ρ H w v H := by
  obtain ⟨hs, fn, c, h1, h2, h3⟩ := hC.sums f g hg
  obtain ⟨hfl, v, g1, g2, g3⟩ := hs _ _ _ _ h
  refine ⟨v, g1, fun {ρ H w args'} hi hlo ha => ?_⟩
  have := ha.flat_eq hfl
  subst this
  refine .inr ⟨f, _, run_callFunc_enter h1 h2 h3, (g3 w).mono ?_⟩
  rintro e w' ⟨rfl, hb⟩
  exact ⟨ρ, v, rfl, VRel.ofFlat ρ g2, below_next hi hb⟩

theorem callE_sound {R : Type} {C : Cx} {cal : Cal R} (hC : C.Ok) (hcal : CalOk C.P cal) {lo : Nat} {f : FuncId} {args : List Value} {H : AH} {k : Value → AH → Option R} {r : R}
    (h : callE C cal lo f args H k = some r) :
    ∃ v H', k v H' = some r ∧ ∀ {ρ : Map} {w : World} {args' : List Value}, Inv ρ H w → lo ≤ H.next → VRels ρ args args' → CallDone C.P lo (callFunc f ⟨args'⟩) ρ H w v H' := by
  unfold callE at h
  split at h
  · split at h
    · rename_i g hg
      obtain ⟨hs, fn, c, q1, q2, q3⟩ := hC.gs f g hg
      obtain ⟨v, h1, h2, h3⟩ := hs _ _ _ _ _ h
      refine ⟨v, H, h1, fun {ρ w args'} hi hlo ha => .inr ⟨f, _, run_callFunc_enter q1 q2 q3, (h3 ρ w args' hi ha).mono ?_⟩⟩
      rintro e w' ⟨rfl, hbl⟩
      exact ⟨ρ, v, rfl, VRel.ofFlat ρ h2, below_next hi hbl⟩
    · split at h
      · rename_i g hg
        obtain ⟨v, h1, h2⟩ := sumE_sound hC (lo := lo) hg h
        exact ⟨v, H, h1, fun hi hlo ha => h2 hi hlo ha⟩
      · exact extE_sound hC hcal h
  · cases hn : (C.nan1 f && oneNan args) with
    | true =>
      rw [hn] at h
      simp only [Bool.and_eq_true] at hn
      obtain ⟨⟨fn, c, q1, q2, q3⟩, q4⟩ := hC.nan1 f hn.1
      refine ⟨_, H, h, fun {ρ w args'} hi hlo ha => ?_⟩
      have h1 := hn.2
      unfold oneNan at h1
      split at h1
      · obtain _ | ⟨r1, r2⟩ := ha
        cases r2
        cases r1 with | nan _ hb =>
        refine .inr ⟨f, _, run_callFunc_enter q1 q2 q3, (q4 _ hb w).mono ?_⟩
        rintro e w' ⟨⟨c, hc, rfl⟩, hbl⟩
        exact ⟨ρ, _, rfl, .nan 0 hc, below_next hi hbl⟩
      · cases h1
    | false =>
      rw [hn] at h
      simp only [cond_false] at h
      split at h
      · rename_i p hp
        obtain ⟨⟨fn, c, q1, q2, q3⟩, q5⟩ := hC.ms f args H p hp
        exact ⟨p.1, p.2, h, fun {ρ w args'} hi hlo ha => .inr ⟨f, _, run_callFunc_enter q1 q2 q3, q5 lo ρ w args' hi hlo ha⟩⟩
      split at h
      · rename_i v hv
        obtain ⟨⟨fn, c, q1, q2, q3⟩, q4, q5⟩ := hC.hs f args H v hv
        refine ⟨v, H, h, fun {ρ w args'} hi hlo ha => .inr ⟨f, _, run_callFunc_enter q1 q2 q3, (q5 ρ w args' hi ha).mono ?_⟩⟩
        rintro e w' ⟨rfl, hbl⟩
        exact ⟨ρ, v, rfl, VRel.ofFlat ρ q4, below_next hi hbl⟩
      · split at h
        · rename_i g hg
          split at h
          · rename_i v hv
            obtain ⟨v', h1, h2⟩ := sumE_sound hC (lo := lo) hg hv
            cases h1
            exact ⟨v, H, h, fun hi hlo ha => h2 hi hlo ha⟩
          · exact bodyE_sound hcal h
        · exact extE_sound hC hcal h

/-- An operation that calls a Go function, or any other. -/
def evAny {R : Type} (C : Cx) (cal : Cal R) (lo : Nat) (e : Env) (H : AH) (o : Oper) (k : Value → AH → Option R) : Option R :=
  match o.op with
  | .call { callee := .value x, args := xs, argTypes := _ } => (opd e x).bind fun fv => (opds e xs.toList).bind fun vs =>
      match fv with
      | .func (.func f) ⟨as⟩ ⟨bs⟩ => callE C cal lo f (as ++ vs ++ bs) H k
      | _ => none
  | .call { callee := .invoke x name, args := xs, argTypes := _ } => (opd e x).bind fun iv => (opds e xs.toList).bind fun vs =>
      match iv with
      | .iface t v =>
        match C.meths t name with
        | some f => callE C cal lo f (v :: vs) H k
        | none => none
      | _ => none
  | _ => evOp C.nn C.fi C.P lo e H o k

/-- What is shown of an operation: it may be carried out. -/
def OpWp (P : Program) (lo : Nat) (o : Oper) (a : Act) (ρ : Map) (H : AH) (w : World) (v : Value) (H' : AH) : Prop :=
  ∀ (K : Act → World → Prop) (Q : Exit → Act → World → Prop), (∀ ρ' w' v', Next lo ρ H w ρ' H' w' → VRel ρ' v v' → K (a.put o.dst v') w') → o.wp P a w K Q

theorem OpWp.ofDone {P : Program} {lo : Nat} {o : Oper} {a : Act} {ρ : Map} {H : AH} {w : World} {v : Value} {H' : AH} (h : Done P lo o a ρ H w v H') : OpWp P lo o a ρ H w v H' := by
  intro K Q hK
  obtain ⟨ρ', w', v', n, h1, h2, h3, h4⟩ := h
  unfold Oper.wp
  rw [h1]
  rcases h2 with rfl | ⟨rfl, rfl⟩
  · exact hK ρ' w' v' h3 h4
  · exact hK ρ' w' undef h3 h4

theorem OpWp.ofCall {P : Program} {lo : Nat} {o : Oper} {a : Act} {ρ : Map} {H : AH} {w : World} {v : Value} {H' : AH} (hi : Inv ρ H w) {s : Sem Go.Next} (hs : (execOp a.eval o).run P w = s.run P w)
    (h : CallDone P lo s ρ H w v H') : OpWp P lo o a ρ H w v H' := by
  intro K Q hK
  unfold Oper.wp
  rw [hs]
  rcases h with ⟨v', h1, h2, rfl⟩ | ⟨f, args', h1, h2⟩
  · rw [h1]
    exact hK ρ w v' (Next.refl hi) h2
  · rw [h1]
    refine h2.mono ?_
    rintro e w' ⟨ρ', v', rfl, g1, g2⟩
    exact hK ρ' w' v' g2 g1

theorem evAny_sound {R : Type} {C : Cx} {cal : Cal R} (hC : C.Ok) (hcal : CalOk C.P cal) {lo : Nat} {e : Env} {H : AH} {o : Oper} {k : Value → AH → Option R} {r : R}
    (h : evAny C cal lo e H o k = some r) :
    ∃ v H', k v H' = some r ∧ ∀ {ρ : Map} {w : World} {a : Act}, Inv ρ H w → lo ≤ H.next → EnvRel ρ e a.tmps → OpWp C.P lo o a ρ H w v H' := by
  unfold evAny at h
  split at h
  · rename_i x xs ts ho
    obtain ⟨fv, h1, h⟩ := bind_some' h
    obtain ⟨vs, h2, h⟩ := bind_some' h
    split at h
    · rename_i f as bs
      obtain ⟨v, H', g1, g2⟩ := callE_sound hC hcal h
      refine ⟨v, H', g1, fun {ρ w a} hi hlo he => ?_⟩
      have hx := opd_rel he h1
      generalize hex : a.eval x = x' at hx
      cases hx with
      | func _ h3 h4 =>
        rename_i as' bs'
        refine OpWp.ofCall hi ?_ (g2 hi hlo ((h3.append (opds_rel he h2)).append h4))
        have e1 : xs.map a.eval = ⟨xs.toList.map a.eval⟩ := by apply Array.ext'; simp
        simp only [execOp, ho, resolve, hex, Deferred.ofValue, Sem.run_bind, Sem.run_pure, Result.andThen_ok, invoke, e1]
        simp
    · cases h
  · rename_i x name xs ts ho
    obtain ⟨iv, h1, h⟩ := bind_some' h
    obtain ⟨vs, h2, h⟩ := bind_some' h
    cases iv with
    | iface t v =>
      simp only at h
      cases hm : C.meths t name with
      | none => rw [hm] at h; cases h
      | some f =>
        rw [hm] at h
        simp only at h
        obtain ⟨v2, H', g1, g2⟩ := callE_sound hC hcal h
        refine ⟨v2, H', g1, fun {ρ w a} hi hlo he => ?_⟩
        have hx := opd_rel he h1
        generalize hex : a.eval x = x' at hx
        cases hx with
        | iface _ h3 =>
          rename_i v'
          refine OpWp.ofCall hi ?_ (g2 hi hlo (.cons h3 (opds_rel he h2)))
          have e1 : xs.map a.eval = ⟨xs.toList.map a.eval⟩ := by apply Array.ext'; simp
          simp only [execOp, ho, resolve, hex, Sem.run_bind, Sem.run_pure, Result.andThen_ok, invoke, e1]
          have e2 : List.take xs.size (List.map a.eval xs.toList) = List.map a.eval xs.toList := List.take_of_length_le (by simp)
          simp [callMethod, hC.meths t name f hm, e2]
    | _ => cases h
  · obtain ⟨v, H', g1, g2⟩ := evOp_sound (lo := lo) hC.fair h
    exact ⟨v, H', g1, fun hi hlo he => OpWp.ofDone (g2 hi hlo he)⟩

end Go.Vm
namespace Go.Vm
set_option linter.unusedVariables false
set_option linter.unusedSimpArgs false

def putE (o : Oper) (v : Value) (e : Env) : Env := match o.dst with | some d => (d, v) :: e | none => e
def dstOk (sz : Nat) (o : Oper) : Bool := match o.dst with | some d => Nat.blt d sz | none => true

theorem put_rel {ρ : Map} {e : Env} {a : Act} {sz : Nat} {o : Oper} (hd : dstOk sz o = true) (hs : a.tmps.size = sz) (he : EnvRel ρ e a.tmps) {v v' : Value} (hv : VRel ρ v v') :
    EnvRel ρ (putE o v e) (a.put o.dst v').tmps := by
  unfold putE dstOk Act.put at *
  cases hq : o.dst with
  | none => exact he
  | some d =>
    rw [hq] at hd
    simp only [Nat.blt_eq] at hd
    exact he.put (by omega) hv

theorem put_size (a : Act) (d : Option Tmp) (v : Value) : (a.put d v).tmps.size = a.tmps.size := by unfold Act.put; split <;> simp
theorem put_defers (a : Act) (d : Option Tmp) (v : Value) : (a.put d v).defers = a.defers := by unfold Act.put; split <;> rfl

def wantE (ops : Array Oper) (o : Oper) (e : Env) : Option Bool :=
  match o.guard with
  | none => some true
  | some (j, want) =>
    match (ops[j]?).bind (·.dst) with
    | some d =>
      match getE d e with
      | some (.bool b) => some (b == want)
      | some (.tuple _) => some false
      | _ => none
    | none => none

theorem wantE_sound {ops : Array Oper} {o : Oper} {e : Env} {b : Bool} (h : wantE ops o e = some b) {ρ : Map} {a : Act} (he : EnvRel ρ e a.tmps) :
    Region.wanted o (yielded ops a.tmps) = b := by
  unfold wantE at h
  unfold Region.wanted
  split at h
  · rename_i hg; rw [hg]; cases h; rfl
  · rename_i j want hg
    rw [hg]
    simp only
    split at h
    · rename_i d hd
      split at h
      · rename_i b' hb
        obtain ⟨v', h1, h2⟩ := he d _ hb
        cases h2
        cases h
        unfold yielded
        rw [hd]
        simp [h1]
      · rename_i as hb
        obtain ⟨v', h1, h2⟩ := he d _ hb
        cases h
        unfold yielded
        rw [hd]
        cases h2
        simp [h1]
      · cases h
    · cases h

def evOps {R : Type} (C : Cx) (cal : Cal R) (lo sz : Nat) (ops : Array Oper) : List Oper → Env → AH → (Env → AH → Option R) → Option R
  | [], e, H, k => k e H
  | o :: rest, e, H, k =>
    bif dstOk sz o then
      (wantE ops o e).bind fun b =>
        bif b then evAny C cal lo e H o fun v H' => evOps C cal lo sz ops rest (putE o v e) H' k
        else evOps C cal lo sz ops rest (putE o undef e) H k
    else none

theorem evOps_sound {R : Type} {C : Cx} {cal : Cal R} (hC : C.Ok) (hcal : CalOk C.P cal) {lo sz : Nat} {ops : Array Oper} : ∀ {rest : List Oper} {e : Env} {H : AH} {k : Env → AH → Option R} {r : R},
    evOps C cal lo sz ops rest e H k = some r → ∃ e' H', k e' H' = some r ∧ ∀ {ρ : Map} {w : World} {a : Act}, Inv ρ H w → lo ≤ H.next → EnvRel ρ e a.tmps → a.tmps.size = sz →
      ∀ Q : Exit → Act → World → Prop, (∀ ρ' a' w', Next lo ρ H w ρ' H' w' → EnvRel ρ' e' a'.tmps → a'.tmps.size = sz → a'.defers = a.defers → Q .normal a' w') → wpList C.P ops Q rest a w
  | [], e, H, k, r, h => ⟨e, H, h, fun {ρ w a} hi hlo he hs Q hQ => hQ ρ a w (Next.refl hi) he hs rfl⟩
  | o :: rest, e, H, k, r, h => by
    unfold evOps at h
    cases hd : dstOk sz o with
    | false => rw [hd] at h; cases h
    | true =>
      rw [hd] at h
      simp only [cond_true] at h
      obtain ⟨b, h1, h⟩ := bind_some' h
      cases b with
      | true =>
        simp only [cond_true] at h
        obtain ⟨v, H1, g1, g2⟩ := evAny_sound hC hcal h
        obtain ⟨e', H', k1, k2⟩ := evOps_sound hC hcal (rest := rest) g1
        refine ⟨e', H', k1, fun {ρ w a} hi hlo he hs Q hQ => ?_⟩
        unfold wpList
        rw [if_pos (wantE_sound h1 he)]
        refine .inl (g2 hi hlo he _ Q fun ρ2 w2 v2 m1 m2 => ?_)
        exact k2 m1.inv (Nat.le_trans hlo m1.nx) (put_rel hd hs (he.mono (m1.ext hi)) m2) (by rw [put_size]; exact hs) Q fun ρ' a' w' q1 q2 q3 q4 =>
          hQ ρ' a' w' (m1.trans q1) q2 q3 (by rw [q4, put_defers])
      | false =>
        simp only [cond_false] at h
        obtain ⟨e', H', k1, k2⟩ := evOps_sound hC hcal (rest := rest) h
        refine ⟨e', H', k1, fun {ρ w a} hi hlo he hs Q hQ => ?_⟩
        unfold wpList
        rw [if_neg (by rw [wantE_sound h1 he]; exact Bool.false_ne_true)]
        exact k2 hi hlo (put_rel hd hs he (.tuple .nil)) (by rw [put_size]; exact hs) Q fun ρ' a' w' q1 q2 q3 q4 => hQ ρ' a' w' q1 q2 q3 (by rw [q4, put_defers])

/-! ### A region that draws its order -/
def readsOf (ops : Array Oper) (o : Oper) : List Tmp :=
  (o.op.operands.toList.filterMap fun | .tmp t => some t | _ => none) ++
  (match o.guard with
   | some (g, _) => ((ops[g]?).bind (·.dst)).toList
   | none => [])

def restrE (e : Env) : List Tmp → Env
  | [] => []
  | t :: r => match getE t e with | some v => (t, v) :: restrE e r | none => restrE e r

theorem getE_restr {e : Env} {t : Tmp} {v : Value} : ∀ {l : List Tmp}, getE t (restrE e l) = some v → t ∈ l ∧ getE t e = some v
  | [], h => by simp [restrE, getE] at h
  | s :: r, h => by
    unfold restrE at h
    split at h
    · rename_i u hu
      unfold getE at h
      cases hb : Nat.beq s t with
      | true =>
        have := Nat.eq_of_beq_eq_true hb
        subst this
        rw [hb] at h
        cases h
        exact ⟨by simp, hu⟩
      | false =>
        rw [hb] at h
        have := getE_restr (l := r) h
        exact ⟨by simp [this.1], this.2⟩
    · have := getE_restr (l := r) h
      exact ⟨by simp [this.1], this.2⟩

def isW (o : Oper) : Bool :=
  match o.op with
  | .move _ | .assign _ | .pick .. | .nilCheck _ | .binOp .. | .unOp .. | .convert .. | .makeInterface .. | .makeFunc .. | .slice .. | .fieldAddr .. | .field ..
  | .indexAddr .. | .index .. | .typeAssert .. | .extract .. | .build .. => true
  | .call { callee := .builtin b, .. } => match b with | .real | .imag | .complex | .len | .min | .max => true | _ => false
  | _ => false

/-- is the first one not nil, written out? -/
def nilFirst : List Operand → Bool
  | .const (.slice none _ _) :: _ => false
  | _ => true

def isM (o : Oper) : Bool :=
  match o.op with
  | .store .. | .mapUpdate .. | .insert .. | .entryStore .. => true
  | .call { callee := .builtin b, args := xs, argTypes := _ } => match b with | .real | .imag | .complex | .len | .min | .max => false | .append => nilFirst xs.toList | _ => true
  | _ => false

/-- the operations that an operation lies behind, as bits -/
def maskOf (acc : List Nat) (o : Oper) : Nat := o.after.toList.foldl (fun m e => bif Region.binds .any e then (m ||| 2 ^ e.on) ||| acc.getD e.on 0 else m) 0
def masksA : List Oper → List Nat → List Nat
  | [], acc => acc
  | o :: r, acc => masksA r (acc ++ [maskOf acc o])
def masks (ops : Array Oper) : List Nat := masksA ops.toList []

theorem fold_bit {acc : List Nat} {j : Nat} : ∀ {l : List Edge} {m : Nat}, Nat.testBit (l.foldl (fun m e => bif Region.binds .any e then (m ||| 2 ^ e.on) ||| acc.getD e.on 0 else m) m) j = true →
    Nat.testBit m j = true ∨ ∃ e ∈ l, Region.binds .any e = true ∧ (e.on = j ∨ Nat.testBit (acc.getD e.on 0) j = true)
  | [], m, h => .inl h
  | e :: l, m, h => by
    rw [List.foldl_cons] at h
    rcases fold_bit h with g | ⟨e', h1, h2, h3⟩
    · cases hb : Region.binds .any e with
      | false => rw [hb] at g; exact .inl g
      | true =>
        rw [hb] at g
        simp only [cond_true, Nat.testBit_or, Bool.or_eq_true] at g
        rcases g with (g | g) | g
        · exact .inl g
        · refine .inr ⟨e, by simp, hb, .inl ?_⟩
          rw [Nat.testBit_two_pow] at g
          simpa using g
        · exact .inr ⟨e, by simp, hb, .inr g⟩
    · exact .inr ⟨e', by simp [h1], h2, h3⟩

theorem masksA_spec {ops : Array Oper} {S : Nat → Prop} (hc : ∀ (i : Nat) o, ops[i]? = some o → S i → ∀ e ∈ o.after.toList, Region.binds .any e = true → S e.on) :
    ∀ (l : List Oper) (acc : List Nat), (∀ (i : Nat) o, i < acc.length → ops[i]? = some o → (∀ e ∈ o.after.toList, Region.binds .any e = true → S e.on) → ∀ j, Nat.testBit (acc.getD i 0) j = true → S j) →
      (∀ p : Nat, l[p]? = ops[acc.length + p]?) → ∀ (i : Nat) o, ops[i]? = some o → (∀ e ∈ o.after.toList, Region.binds .any e = true → S e.on) → ∀ j, Nat.testBit ((masksA l acc).getD i 0) j = true → S j
  | [], acc, h1, h2, i, o, ho => by
    refine h1 i o ?_ ho
    rcases Nat.lt_or_ge i acc.length with h | h
    · exact h
    · have := h2 (i - acc.length)
      rw [show acc.length + (i - acc.length) = i by omega, ho] at this
      simp at this
  | q :: l, acc, h1, h2, i, o, ho => by
    unfold masksA
    have hq : ops[acc.length]? = some q := by have := h2 0; simpa using this.symm
    refine masksA_spec hc l (acc ++ [maskOf acc q]) (fun i o hi ho hs j hj => ?_) (fun p => ?_) i o ho
    · simp only [List.length_append, List.length_cons, List.length_nil] at hi
      rcases Nat.lt_or_ge i acc.length with h | h
      · refine h1 i o h ho hs j ?_
        rw [List.getD_eq_getElem?_getD, List.getElem?_append_left h, ← List.getD_eq_getElem?_getD] at hj
        exact hj
      · have hi' : i = acc.length := by omega
        subst hi'
        rw [hq] at ho
        cases ho
        have e1 : (acc ++ [maskOf acc q]).getD acc.length 0 = maskOf acc q := by
          rw [List.getD_eq_getElem?_getD, List.getElem?_append_right (Nat.le_refl _)]; simp
        rw [e1] at hj
        rcases fold_bit hj with g | ⟨e, he, hb, g⟩
        · simp at g
        · rcases g with rfl | g
          · exact hs e he hb
          · rcases Nat.lt_or_ge e.on acc.length with h' | h'
            · cases ho' : ops[e.on]? with
              | none =>
                have : acc.length < ops.size := (Array.getElem?_eq_some_iff.1 hq).1
                have := Array.getElem?_eq_none_iff.1 ho'
                omega
              | some o' => exact h1 e.on o' h' ho' (hc e.on o' ho' (hs e he hb)) j g
            · rw [List.getD_eq_getElem?_getD, List.getElem?_eq_none h'] at g
              simp at g
    · have := h2 (p + 1)
      simp only [List.getElem?_cons_succ] at this
      rw [this]
      congr 1
      simp only [List.length_append, List.length_cons, List.length_nil]
      omega
theorem masks_spec {ops : Array Oper} {S : Nat → Prop} (hc : ∀ (i : Nat) o, ops[i]? = some o → S i → ∀ e ∈ o.after.toList, Region.binds .any e = true → S e.on)
    {i : Nat} {o : Oper} (ho : ops[i]? = some o) (hs : ∀ e ∈ o.after.toList, Region.binds .any e = true → S e.on) {j : Nat} (hj : Nat.testBit ((masks ops).getD i 0) j = true) : S j :=
  masksA_spec hc ops.toList [] (fun i o hi => by simp at hi) (fun p => by simp) i o ho hs j hj

/-- Of two operations, i ahead of j: what the order must bear. -/
def pairOk (ops : Array Oper) (i : Nat) (oi : Oper) (oj : Oper) (mj : Nat) : Bool :=
  (match oi.dst with
   | some d => (match oj.dst with | some d' => !Nat.beq d d' | none => true) && (!(readsOf ops oj).any (Nat.beq d) || Nat.testBit mj i)
   | none => true) &&
  (match oj.dst with
   | some d => !(readsOf ops oi).any (Nat.beq d) || Nat.testBit mj i
   | none => true)

def pairsOk (ops : Array Oper) (ms : List Nat) : List (Oper × Nat) → Bool
  | [] => true
  | (o, i) :: r => (o.after.toList.all fun e => !Region.binds .any e || Nat.blt e.on i) && (r.all fun (oj, j) => pairOk ops i o oj (ms.getD j 0)) && pairsOk ops ms r

def drawOk (ops : Array Oper) : Bool := pairsOk ops (masks ops) ops.toList.zipIdx

def visE (n0 : Nat) (own : List (Nat × Nat × Nat)) (m k : Nat) : Bool := Nat.blt k n0 || own.any fun x => Nat.ble x.1 k && Nat.blt k x.2.1 && Nat.testBit m x.2.2

/-- the blocks that values lie in, at the top -/
def blocksOf : List Value → List Nat
  | [] => []
  | .pointer (some ad) :: r => ad.block :: blocksOf r
  | .slice (some ad) _ _ :: r => ad.block :: blocksOf r
  | .map (some b) :: r => b :: blocksOf r
  | _ :: r => blocksOf r

/-- Which blocks an operation looks at; none: it may be any. -/
def seenE (e : Env) (o : Oper) : Option (List Nat) :=
  match o.op with
  | .load _ x => match opd e x with | some v => some (blocksOf [v]) | none => some []
  | .store _ x _ => match opd e x with | some v => some (blocksOf [v]) | none => some []
  | .alloc _ | .box .. | .buildSlice .. | .makeSlice .. | .makeMap .. => some []
  | .call { callee := .builtin _, args := xs, argTypes := _ } => match opds e xs.toList with | some vs => some (blocksOf vs) | none => some []
  | .mapUpdate _ x _ _ | .insert _ x _ _ | .lookup _ x _ _ => match opd e x with | some v => some (blocksOf [v]) | none => some []
  | _ => none
def touchE (e : Env) (o : Oper) : List Nat := bif isM o then (match seenE e o with | some l => l | none => []) else []

def seesB (s : Option (List Nat)) (k : Nat) : Bool := match s with | none => true | some l => l.any (Nat.beq k)
def apartB (s : Option (List Nat)) (t : List Nat) : Bool := t.all fun k => !seesB s k

abbrev Log := List (Nat × Option (List Nat) × List Nat)
def logOk (log : Log) (m : Nat) (s : Option (List Nat)) (t : List Nat) : Bool := log.all fun x => Nat.testBit m x.1 || (apartB s x.2.2 && apartB x.2.1 t)

def evDraw {R : Type} (C : Cx) (cal : Cal R) (lo sz : Nat) (ops : Array Oper) (ms : List Nat) (n0 : Nat) : Nat → List (Nat × Nat × Nat) → Log → List Oper → Env → AH → (Env → AH → Option R) → Option R
  | _, _, _, [], e, H, k => k e H
  | i, own, log, o :: rest, e, H, k =>
    bif dstOk sz o then
      (wantE ops o (restrE e (readsOf ops o))).bind fun b =>
        bif b then
          bif isW o then evAny C cal H.next (restrE e (readsOf ops o)) ⟨H.next, []⟩ o fun v H' =>
            bif Nat.beq H'.next H.next then evDraw C cal lo sz ops ms n0 (i + 1) own log rest (putE o v e) H k else none
          else
            bif logOk log (ms.getD i 0) (seenE (restrE e (readsOf ops o)) o) (touchE (restrE e (readsOf ops o)) o) && ((touchE (restrE e (readsOf ops o)) o).all fun k => visE n0 own (ms.getD i 0) k && Nat.blt k H.next) &&
                (!isM o || (seenE (restrE e (readsOf ops o)) o).isSome) then
              evAny C cal (bif isM o then lo else H.next) (restrE e (readsOf ops o)) ⟨H.next, H.objs.filter fun x => seesB (seenE (restrE e (readsOf ops o)) o) x.1 && visE n0 own (ms.getD i 0) x.1⟩ o fun v H' =>
                bif Nat.ble H.next H'.next then
                  evDraw C cal lo sz ops ms n0 (i + 1) ((H.next, H'.next, i) :: own) ((i, seenE (restrE e (readsOf ops o)) o, touchE (restrE e (readsOf ops o)) o) :: log) rest (putE o v e)
                    ⟨H'.next, (H'.objs.filter fun x => (Nat.ble H.next x.1 && Nat.blt x.1 H'.next) || (touchE (restrE e (readsOf ops o)) o).any (Nat.beq x.1)) ++
                      (H.objs.filter fun x => !((touchE (restrE e (readsOf ops o)) o).any (Nat.beq x.1)) && Nat.blt x.1 H.next)⟩ k
                else none
            else none
        else evDraw C cal lo sz ops ms n0 (i + 1) own log rest (putE o undef e) H k
    else none

def Sees (s : Option (List Nat)) (k : Nat) : Prop := seesB s k = true

/-- What is known of one operation of the canonical order. -/
def StepOk (C : Cx) (lo : Nat) (ops : Array Oper) (m : Nat) (heaps : Nat → AH) (seen : Nat → Option (List Nat)) (tch : Nat → List Nat) (i : Nat) (o : Oper) (er : Env) (v : Value) : Prop :=
  (wantE ops o er = some false ∧ v = undef ∧ heaps (i + 1) = heaps i ∧ seen i = some [] ∧ tch i = []) ∨
  (wantE ops o er = some true ∧ isW o = true ∧ heaps (i + 1) = heaps i ∧ seen i = some [] ∧ tch i = [] ∧ ∃ H2 : AH, H2.next = (heaps i).next ∧
    ∀ {ρ : Map} {w : World} {a : Act}, Inv ρ ⟨(heaps i).next, []⟩ w → EnvRel ρ er a.tmps → OpWp C.P (heaps i).next o a ρ ⟨(heaps i).next, []⟩ w v H2) ∨
  (wantE ops o er = some true ∧ isW o = false ∧ ∃ (V : Objs) (H2 : AH) (lo' : Nat) (vis : Nat → Prop),
    (∀ k, vis k → k < (heaps 0).next ∨ ∃ t, t < i ∧ Nat.testBit m t = true ∧ (heaps t).next ≤ k ∧ k < (heaps (t + 1)).next) ∧
    (∀ x, x ∈ V ↔ x ∈ (heaps i).objs ∧ Sees (seen i) x.1 ∧ vis x.1) ∧
    ((lo' = lo ∧ seen i = some (tch i)) ∨ (lo' = (heaps i).next ∧ tch i = [])) ∧
    (∀ k ∈ tch i, Sees (seen i) k ∧ k < (heaps i).next ∧ vis k) ∧
    (∀ t, t < i → Nat.testBit m t = false → (∀ k ∈ tch t, ¬ Sees (seen i) k) ∧ (∀ k ∈ tch i, ¬ Sees (seen t) k)) ∧
    (heaps i).next ≤ H2.next ∧ (heaps (i + 1)).next = H2.next ∧
    (∀ x, x ∈ (heaps (i + 1)).objs ↔ (x ∈ H2.objs ∧ (((heaps i).next ≤ x.1 ∧ x.1 < H2.next) ∨ x.1 ∈ tch i)) ∨ (x ∈ (heaps i).objs ∧ x.1 ∉ tch i ∧ x.1 < (heaps i).next)) ∧
    ∀ {ρ : Map} {w : World} {a : Act}, Inv ρ ⟨(heaps i).next, V⟩ w → lo ≤ (heaps i).next → EnvRel ρ er a.tmps → OpWp C.P lo' o a ρ ⟨(heaps i).next, V⟩ w v H2)

theorem any_beq {l : List Nat} {k : Nat} : l.any (Nat.beq k) = true ↔ k ∈ l := by
  rw [List.any_eq_true]
  constructor
  · rintro ⟨x, h1, h2⟩
    rw [Nat.eq_of_beq_eq_true h2]; exact h1
  · intro h; exact ⟨k, h, by simp⟩

theorem evDraw_trace {R : Type} {C : Cx} {cal : Cal R} (hC : C.Ok) (hcal : CalOk C.P cal) {lo sz : Nat} {ops : Array Oper} {ms : List Nat} {n0 : Nat} : ∀ {rest : List Oper} {i : Nat} {own : List (Nat × Nat × Nat)} {log : Log} {e : Env} {H : AH} {k : Env → AH → Option R} {r : R} {hp : Nat → AH} {sp : Nat → Option (List Nat)} {tp : Nat → List Nat},
    evDraw C cal lo sz ops ms n0 i own log rest e H k = some r → hp i = H → (hp 0).next = n0 → (∀ x ∈ own, x.2.2 < i ∧ x.1 = (hp x.2.2).next ∧ x.2.1 = (hp (x.2.2 + 1)).next) →
    (∀ t, t < i → (t, sp t, tp t) ∈ log ∨ (sp t = some [] ∧ tp t = [])) →
    ∃ (vals : Nat → Value) (heaps : Nat → AH) (envs : Nat → Env) (seen : Nat → Option (List Nat)) (tch : Nat → List Nat), (∀ t, t ≤ i → heaps t = hp t) ∧ (∀ t, t < i → seen t = sp t ∧ tch t = tp t) ∧ envs i = e ∧ k (envs (i + rest.length)) (heaps (i + rest.length)) = some r ∧
      ∀ (j : Nat) o, rest[j]? = some o → dstOk sz o = true ∧ StepOk C lo ops (ms.getD (i + j) 0) heaps seen tch (i + j) o (restrE (envs (i + j)) (readsOf ops o)) (vals (i + j)) ∧ envs (i + j + 1) = putE o (vals (i + j)) (envs (i + j))
  | [], i, own, log, e, H, k, r, hp, sp, tp, h, hH, h0, hown, hlog => ⟨fun _ => undef, hp, fun _ => e, sp, tp, fun _ _ => rfl, fun _ _ => ⟨rfl, rfl⟩, rfl, by subst hH; exact h, fun j o hj => by simp at hj⟩
  | o :: rest, i, own, log, e, H, k, r, hp, sp, tp, h, hH, h0, hown, hlog => by
    unfold evDraw at h
    have fin : ∀ (v : Value) (H1 : AH) (own' : List (Nat × Nat × Nat)) (log' : Log) (s : Option (List Nat)) (t : List Nat), dstOk sz o = true →
        (∀ (heaps : Nat → AH) (seen : Nat → Option (List Nat)) (tch : Nat → List Nat), (∀ t, t ≤ i → heaps t = hp t) → heaps (i + 1) = H1 → (∀ t, t < i → seen t = sp t ∧ tch t = tp t) → seen i = s → tch i = t →
          StepOk C lo ops (ms.getD i 0) heaps seen tch i o (restrE e (readsOf ops o)) v) →
        (∀ x ∈ own', x ∈ own ∨ x = (H.next, H1.next, i)) → (∀ x ∈ log, x ∈ log') → ((i, s, t) ∈ log' ∨ (s = some [] ∧ t = [])) →
        evDraw C cal lo sz ops ms n0 (i + 1) own' log' rest (putE o v e) H1 k = some r →
        ∃ (vals : Nat → Value) (heaps : Nat → AH) (envs : Nat → Env) (seen : Nat → Option (List Nat)) (tch : Nat → List Nat), (∀ t, t ≤ i → heaps t = hp t) ∧ (∀ t, t < i → seen t = sp t ∧ tch t = tp t) ∧ envs i = e ∧ k (envs (i + (o :: rest).length)) (heaps (i + (o :: rest).length)) = some r ∧
          ∀ (j : Nat) o', (o :: rest)[j]? = some o' → dstOk sz o' = true ∧ StepOk C lo ops (ms.getD (i + j) 0) heaps seen tch (i + j) o' (restrE (envs (i + j)) (readsOf ops o')) (vals (i + j)) ∧ envs (i + j + 1) = putE o' (vals (i + j)) (envs (i + j)) := by
      intro v H1 own' log' s t hd hs ho hl1 hl2 hr
      obtain ⟨vals, heaps, envs, seen, tch, h1, hst, h2, h3, h4⟩ := evDraw_trace hC hcal (rest := rest) (hp := fun t => if t ≤ i then hp t else H1) (sp := fun u => if u < i then sp u else s) (tp := fun u => if u < i then tp u else t) hr (if_neg (show ¬ (i + 1 ≤ i) by omega)) (by simpa using h0) (fun x hx => by
        rcases ho x hx with g | rfl
        · obtain ⟨g1, g2, g3⟩ := hown x g
          refine ⟨by omega, ?_, ?_⟩
          · rw [if_pos (by omega)]; exact g2
          · rw [if_pos (by omega)]; exact g3
        · refine ⟨by simp, ?_, ?_⟩
          · simp [hH]
          · simp only; rw [if_neg (show ¬ (i + 1 ≤ i) by omega)]) (fun u hu => by
        by_cases g : u < i
        · simp only [g, if_true]
          rcases hlog u g with q | q
          · exact .inl (hl1 _ q)
          · exact .inr q
        · have : u = i := by omega
          subst this
          simp only [g, if_false]
          exact hl2)
      have hh : ∀ t, t ≤ i → heaps t = hp t := fun t ht => by rw [h1 t (by omega), if_pos ht]
      have hh1 : heaps (i + 1) = H1 := by rw [h1 (i + 1) (Nat.le_refl _)]; exact if_neg (show ¬ (i + 1 ≤ i) by omega)
      have hq : ∀ u, u < i → seen u = sp u ∧ tch u = tp u := fun u hu => by
        have := hst u (by omega)
        simp only [hu, if_true] at this
        exact this
      have hqi : seen i = s ∧ tch i = t := by
        have := hst i (by omega)
        simpa using this
      refine ⟨fun t => if t = i then v else vals t, heaps, fun t => if t = i then e else envs t, seen, tch, hh, hq, by simp, ?_, fun j o' hj => ?_⟩
      · have e1 : i + (o :: rest).length = i + 1 + rest.length := by simp only [List.length_cons]; omega
        simp only [e1]
        rw [if_neg (by omega)]
        exact h3
      · cases j with
        | zero =>
          simp only [List.getElem?_cons_zero, Option.some.injEq] at hj
          subst hj
          refine ⟨hd, ?_, ?_⟩
          · simpa using hs heaps seen tch hh hh1 hq hqi.1 hqi.2
          · simp [h2]
        | succ j =>
          have := h4 j o' (by simpa using hj)
          rw [show i + 1 + j = i + (j + 1) by omega] at this
          simp only [show ¬ (i + (j + 1) = i) by omega, show ¬ (i + (j + 1) + 1 = i) by omega, if_false]
          exact this
    cases hd : dstOk sz o with
    | false => rw [hd] at h; cases h
    | true =>
      rw [hd] at h
      simp only [cond_true] at h
      obtain ⟨b, h1, h⟩ := bind_some' h
      cases b with
      | false =>
        simp only [cond_false] at h
        refine fin undef H own log (some []) [] hd (fun heaps seen tch g1 g2 _ g4 g5 => .inl ⟨h1, rfl, ?_, g4, g5⟩) (fun x hx => .inl hx) (fun x hx => hx) (.inr ⟨rfl, rfl⟩) h
        rw [g2, g1 i (Nat.le_refl _), hH]
      | true =>
        simp only [cond_true] at h
        cases hw : isW o with
        | true =>
          rw [hw] at h
          simp only [cond_true] at h
          obtain ⟨v, H2, g1, g2⟩ := evAny_sound hC hcal h
          cases hn : Nat.beq H2.next H.next with
          | false => rw [hn] at g1; cases g1
          | true =>
            rw [hn] at g1
            have hn' := Nat.eq_of_beq_eq_true hn
            refine fin v H own log (some []) [] hd (fun heaps seen tch k1 k2 _ k4 k5 => .inr (.inl ⟨h1, hw, ?_, k4, k5, H2, ?_, ?_⟩)) (fun x hx => .inl hx) (fun x hx => hx) (.inr ⟨rfl, rfl⟩) g1
            · rw [k2, k1 i (Nat.le_refl _), hH]
            · rw [k1 i (Nat.le_refl _), hH]; exact hn'
            · rw [k1 i (Nat.le_refl _), hH]; exact fun {ρ w a} hi' he => g2 hi' (Nat.le_refl _) he
        | false =>
          rw [hw] at h
          simp only [cond_false] at h
          generalize hs : seenE (restrE e (readsOf ops o)) o = s at h
          generalize ht : touchE (restrE e (readsOf ops o)) o = t at h
          cases hc : (logOk log (ms.getD i 0) s t && (t.all fun k => visE n0 own (ms.getD i 0) k && Nat.blt k H.next) && (!isM o || s.isSome)) with
          | false => rw [hc] at h; cases h
          | true =>
            rw [hc] at h
            simp only [cond_true] at h
            simp only [Bool.and_eq_true, List.all_eq_true, Nat.blt_eq] at hc
            obtain ⟨⟨hc1, hc2⟩, hc3⟩ := hc
            obtain ⟨v, H2, g1, g2⟩ := evAny_sound hC hcal h
            cases hn : Nat.ble H.next H2.next with
            | false => rw [hn] at g1; cases g1
            | true =>
              rw [hn] at g1
              simp only [cond_true] at g1
              have hn' := Nat.le_of_ble_eq_true hn
              refine fin v _ _ _ s t hd (fun heaps seen tch k1 k2 k3 k4 k5 => ?_) (fun x hx => by simpa [or_comm] using hx) (fun x hx => by simp [hx]) (.inl (by simp)) g1
              have hi : heaps i = H := by rw [k1 i (Nat.le_refl _), hH]
              have h00 : (heaps 0).next = n0 := by rw [k1 0 (Nat.zero_le _), h0]
              have vis : ∀ k, visE n0 own (ms.getD i 0) k = true → (k < (heaps 0).next ∨ ∃ t, t < i ∧ Nat.testBit (ms.getD i 0) t = true ∧ (heaps t).next ≤ k ∧ k < (heaps (t + 1)).next) := fun k hk => by
                unfold visE at hk
                rw [Bool.or_eq_true] at hk
                rcases hk with g | g
                · rw [h00]; exact .inl (by simpa using g)
                · obtain ⟨y, y1, y2⟩ := List.any_eq_true.1 g
                  simp only [Bool.and_eq_true] at y2
                  obtain ⟨r1, r2, r3⟩ := hown y y1
                  refine .inr ⟨y.2.2, r1, y2.2, ?_, ?_⟩
                  · rw [k1 _ (by omega), ← r2]; exact Nat.le_of_ble_eq_true y2.1.1
                  · rw [k1 _ (by omega), ← r3]; simpa using y2.1.2
              have hts : isM o = true → s = some t := fun hm => by
                subst hs; subst ht
                unfold touchE
                rw [hm] at hc3 ⊢
                simp only [Bool.not_true, Bool.false_or, cond_true] at hc3 ⊢
                cases hq : seenE (restrE e (readsOf ops o)) o with
                | none => rw [hq] at hc3; cases hc3
                | some l => rfl
              have htn : isM o = false → t = [] := fun hm => by
                subst ht
                unfold touchE
                rw [hm]
                rfl
              refine .inr (.inr ⟨h1, hw, H.objs.filter fun x => seesB s x.1 && visE n0 own (ms.getD i 0) x.1, H2, bif isM o then lo else H.next, fun k => visE n0 own (ms.getD i 0) k = true, vis, fun x => ?_, ?_, ?_, ?_, ?_, ?_, ?_, ?_⟩)
              · rw [hi, k4, List.mem_filter]
                simp only [Bool.and_eq_true, Sees]
              · cases hm : isM o with
                | true => exact .inl ⟨rfl, by rw [k4, k5]; exact hts hm⟩
                | false => exact .inr ⟨by rw [hi]; rfl, by rw [k5]; exact htn hm⟩
              · intro k hk
                rw [k5] at hk
                obtain ⟨q1, q2⟩ := hc2 k hk
                refine ⟨?_, by rw [hi]; exact q2, q1⟩
                rw [k4]
                have hm : isM o = true := by
                  cases hm : isM o with
                  | true => rfl
                  | false => rw [htn hm] at hk; simp at hk
                rw [hts hm]
                exact any_beq.2 hk
              · intro u hu hbit
                obtain ⟨q1, q2⟩ := k3 u hu
                rcases hlog u hu with g | ⟨g1, g2⟩
                · unfold logOk at hc1
                  have := List.all_eq_true.1 hc1 _ g
                  simp only [hbit, Bool.false_or, Bool.and_eq_true, apartB, List.all_eq_true, Bool.not_eq_true'] at this
                  rw [q1, q2, k4, k5]
                  exact ⟨fun k hk hq => (by have := this.1 k hk; unfold Sees at hq; rw [this] at hq; cases hq), fun k hk hq => (by have := this.2 k hk; unfold Sees at hq; rw [this] at hq; cases hq)⟩
                · rw [q1, q2, g1, g2]
                  exact ⟨fun k hk => by simp at hk, fun k hk hq => by simp [Sees, seesB] at hq⟩
              · rw [hi]; exact hn'
              · rw [k2]
              · intro x
                rw [k2, hi, k5]
                simp only [List.mem_append, List.mem_filter, Bool.or_eq_true, Bool.and_eq_true, Nat.ble_eq, Nat.blt_eq, Bool.not_eq_true', any_beq]
                constructor
                · rintro (⟨q1, q2 | q2⟩ | ⟨q1, q2, q3⟩)
                  · exact .inl ⟨q1, .inl q2⟩
                  · exact .inl ⟨q1, .inr q2⟩
                  · exact .inr ⟨q1, fun g => (by rw [any_beq.2 g] at q2; cases q2), q3⟩
                · rintro (⟨q1, q2 | q2⟩ | ⟨q1, q2, q3⟩)
                  · exact .inl ⟨q1, .inl q2⟩
                  · exact .inl ⟨q1, .inr q2⟩
                  · refine .inr ⟨q1, ?_, q3⟩
                    cases hq : t.any (Nat.beq x.1) with
                    | false => rfl
                    | true => exact absurd (any_beq.1 hq) q2
              · rw [hi]
                intro ρ w a hi' hlo he
                refine g2 hi' ?_ he
                cases hm : isM o with
                | true => exact hlo
                | false => exact Nat.le_refl _
end Go.Vm
namespace Go.Vm
set_option linter.unusedVariables false
set_option linter.unusedSimpArgs false

theorem pairsOk_spec {ops : Array Oper} {ms : List Nat} : ∀ {l : List (Oper × Nat)}, pairsOk ops ms l = true →
    (∀ (p : Nat) x, l[p]? = some x → ∀ e ∈ x.1.after.toList, Region.binds .any e = true → e.on < x.2) ∧
    (∀ (p q : Nat) x y, p < q → l[p]? = some x → l[q]? = some y → pairOk ops x.2 x.1 y.1 (ms.getD y.2 0) = true)
  | [], _ => ⟨fun p x h => by simp at h, fun p q x y _ h => by simp at h⟩
  | (o, i) :: r, h => by
    unfold pairsOk at h
    simp only [Bool.and_eq_true, List.all_eq_true] at h
    obtain ⟨⟨h1, h2⟩, h3⟩ := h
    obtain ⟨g1, g2⟩ := pairsOk_spec h3
    refine ⟨fun p x hx => ?_, fun p q x y hpq hx hy => ?_⟩
    · cases p with
      | zero =>
        simp only [List.getElem?_cons_zero, Option.some.injEq] at hx
        subst hx
        intro e he hb
        have := h1 e he
        simpa [hb] using this
      | succ p => exact g1 p x (by simpa using hx)
    · cases q with
      | zero => omega
      | succ q =>
        cases p with
        | zero =>
          simp only [List.getElem?_cons_zero, Option.some.injEq] at hx
          subst hx
          exact h2 y (List.mem_of_getElem? (by simpa using hy))
        | succ p => exact g2 p q x y (by omega) (by simpa using hx) (by simpa using hy)

theorem drawOk_spec {ops : Array Oper} (h : drawOk ops = true) :
    (∀ (i : Nat) o, ops[i]? = some o → ∀ e ∈ o.after, Region.binds .any e = true → e.on < i) ∧
    (∀ (i j : Nat) oi oj, i < j → ops[i]? = some oi → ops[j]? = some oj → pairOk ops i oi oj ((masks ops).getD j 0) = true) := by
  obtain ⟨h1, h2⟩ := pairsOk_spec h
  have hz : ∀ (i : Nat) o, ops[i]? = some o → ops.toList.zipIdx[i]? = some (o, i) := fun i o hi => by
    rw [List.getElem?_zipIdx, Array.getElem?_toList, hi]
    simp
  exact ⟨fun i o hi e he => h1 i _ (hz i o hi) e (by simpa using he), fun i j oi oj hij hi hj => h2 i j _ _ hij (hz i oi hi) (hz j oj hj)⟩

/-! ### A map cut off -/
def cut (ρ : Map) (n : Nat) : Map := fun k => bif Nat.blt k n then ρ k else none
theorem cut_some {ρ : Map} {n k : Nat} {s : Spot} : cut ρ n k = some s ↔ k < n ∧ ρ k = some s := by
  unfold cut
  cases h : Nat.blt k n with
  | true => simp only [cond_true]; have : k < n := by simpa using h
            exact ⟨fun g => ⟨this, g⟩, fun g => g.2⟩
  | false => simp only [cond_false]; have : ¬ k < n := fun g => by rw [show Nat.blt k n = true by simpa using g] at h; cases h
             exact ⟨fun g => (by cases g), fun g => absurd g.1 this⟩
theorem cut_mono {ρ ρ' : Map} {n n' : Nat} (h : ∀ k p, ρ k = some p → ρ' k = some p) (hn : n ≤ n') : ∀ k p, cut ρ n k = some p → cut ρ' n' k = some p := fun k p hk => by
  obtain ⟨h1, h2⟩ := cut_some.1 hk
  exact cut_some.2 ⟨by omega, h k p h2⟩
theorem cut_le {ρ ρ' : Map} {n : Nat} (h : ∀ k p, k < n → ρ k = some p → ρ' k = some p) : ∀ k p, cut ρ n k = some p → ρ' k = some p := fun k p hk => by
  obtain ⟨h1, h2⟩ := cut_some.1 hk
  exact h k p h1 h2

theorem Next.objs {lo : Nat} {ρ ρ' : Map} {H : AH} {w w' : World} {n n' : Nat} {O O' : Objs} (h : Next lo ρ H w ρ' ⟨n, O⟩ w') (hn : H.next ≤ n') (hd : ∀ k, n' ≤ k → ρ' k = none) (hO : ∀ x, x ∈ O' ↔ x ∈ O) (hwf : ∀ x, x ∈ O' → x.1 < n') :
    Next lo ρ H w ρ' ⟨n', O'⟩ w' :=
  { h with
    inv := ⟨hd, fun k o hm => hwf _ hm, fun k o o' h1 h2 => h.inv.one k o o' ((hO _).1 h1) ((hO _).1 h2), h.inv.rel.sub fun x hx => (hO x).1 hx⟩
    nx := hn
    own := fun k o s hk hm => h.own k o s hk ((hO _).1 hm)
    old := fun k o hk => (hO _).trans (h.old k o hk) }

/-- One operation's step, seen from all that is alive. -/
theorem advance {lo lo' nj nj1 N : Nat} {ρ0 ρ ρ1 : Map} {H0 H2 : AH} {w0 w w' : World} {O V O' : Objs} {T : List Nat} (hx : Next lo ρ0 H0 w0 ρ ⟨N, O⟩ w) (h0 : H0.next ≤ nj) (h1 : nj ≤ nj1) (h2 : nj1 ≤ N) (hlo : lo ≤ H0.next)
    (hV : ∀ x, x ∈ V → x ∈ O ∧ x.1 < nj) (hl : (lo' = lo ∧ ∀ x, x ∈ V → x.1 ∈ T) ∨ (lo' = nj ∧ T = [])) (hT : ∀ k, k ∈ T → k < nj ∧ ∀ o, (k, o) ∈ O → (k, o) ∈ V)
    (hnone : ∀ k, nj ≤ k → k < nj1 → ρ k = none) (n1 : Next lo' (cut ρ nj) ⟨nj, V⟩ w ρ1 H2 w') (hn : H2.next = nj1)
    (hO : ∀ x, x ∈ O' ↔ (x ∈ H2.objs ∧ ((nj ≤ x.1 ∧ x.1 < nj1) ∨ x.1 ∈ T)) ∨ (x ∈ O ∧ x.1 ∉ T)) :
    ∃ ρ' : Map, Next lo ρ0 H0 w0 ρ' ⟨N, O'⟩ w' ∧ (∀ k q, ρ k = some q → ρ' k = some q) ∧ (∀ k q, ρ1 k = some q → ρ' k = some q) ∧ (∀ k, ¬ (nj ≤ k ∧ k < nj1) → ρ' k = ρ k) ∧ (∀ k, nj ≤ k → k < nj1 → ρ' k = ρ1 k) ∧
      ∀ x s, x ∈ O → x.1 ∉ T → ρ x.1 = some s → w'.heap[s.b]? = w.heap[s.b]? := by
  let ρ' : Map := fun k => if nj ≤ k ∧ k < nj1 then ρ1 k else ρ k
  have rin : ∀ k, nj ≤ k → k < nj1 → ρ' k = ρ1 k := fun k h1 h2 => if_pos ⟨h1, h2⟩
  have rout : ∀ k, ¬ (nj ≤ k ∧ k < nj1) → ρ' k = ρ k := fun k h => if_neg h
  have hρ : ∀ k q, ρ k = some q → ρ' k = some q := fun k q hk => by
    by_cases h : nj ≤ k ∧ k < nj1
    · rw [hnone k h.1 h.2] at hk; cases hk
    · rw [rout k h]; exact hk
  have low : ∀ k, k < nj → ρ1 k = ρ k := fun k hk => by
    have := n1.same k hk
    rw [this]
    unfold cut
    rw [show Nat.blt k nj = true by simpa using hk]
    rfl
  have hρ1 : ∀ k q, ρ1 k = some q → ρ' k = some q := fun k q hk => by
    have hlt1 : k < H2.next := n1.inv.lt hk
    by_cases h : nj ≤ k
    · rw [rin k h (by omega)]; exact hk
    · rw [rout k (fun g => h g.1), ← low k (by omega)]; exact hk
  have lo'le : lo' ≤ nj := by rcases hl with ⟨h, _⟩ | ⟨h, _⟩ <;> omega
  have olt : ∀ x s, x ∈ O → ρ x.1 = some s → s.b < w.heap.size := fun x s hx2 hs => by
    obtain ⟨s2, e1, e2⟩ := hx.inv.rel.obj x.1 x.2 hx2
    rw [hs] at e1; cases e1
    exact e2.lt
  have keepO : ∀ x s, x ∈ O → x.1 ∉ T → ρ x.1 = some s → w'.heap[s.b]? = w.heap[s.b]? := fun x s hx2 hT2 hs => by
    refine n1.keep s.b (olt x s hx2 hs) fun k o s2 g1 g2 g3 g4 => ?_
    obtain ⟨q1, q2⟩ := hV _ g2
    have g3' := (cut_some.1 g3).2
    rcases hl with ⟨_, h⟩ | ⟨h, _⟩
    · have := hx.inv.rel.inj k o x.1 x.2 s2 s q1 hx2 g3' hs g4
      subst this
      exact hT2 (h (x.1, o) g2)
    · simp only at q2; omega
  have outO : ∀ x, x ∈ O → ¬ (nj ≤ x.1 ∧ x.1 < nj1) := fun x hx2 h => by
    obtain ⟨s, e1, _⟩ := hx.inv.rel.obj x.1 x.2 hx2
    rw [hnone x.1 h.1 h.2] at e1
    cases e1
  /- what comes of the operation: new, or touched -/
  have h2map : ∀ x s, x ∈ H2.objs → ρ1 x.1 = some s → (nj ≤ x.1 ∧ x.1 < nj1) ∨ x.1 ∈ T → (w.heap.size ≤ s.b ∧ lo ≤ x.1) ∨ ∃ y s', y ∈ O ∧ y.1 ∈ T ∧ ρ y.1 = some s' ∧ s'.b = s.b ∧ (lo ≤ x.1 → lo ≤ y.1) := fun x s hx2 hs hc => by
    rcases Nat.lt_or_ge x.1 lo' with g | g
    · have hin := (n1.old x.1 x.2 g).1 hx2
      obtain ⟨q1, q2⟩ := hV _ hin
      have hk : x.1 ∈ T := by
        rcases hc with h | h
        · omega
        · exact h
      exact .inr ⟨x, s, q1, hk, by rw [← low x.1 q2]; exact hs, rfl, fun h => h⟩
    · rcases n1.own x.1 x.2 s g hx2 hs with h | ⟨k', o', s', e1, e2, e3, e4⟩
      · refine .inl ⟨h, ?_⟩
        rcases hl with ⟨h', _⟩ | ⟨h', _⟩ <;> omega
      · obtain ⟨q1, q2⟩ := hV _ e2
        rcases hl with ⟨h', h3⟩ | ⟨h', _⟩
        · exact .inr ⟨(k', o'), s', q1, h3 _ e2, (cut_some.1 e3).2, e4, fun _ => by rw [← h']; exact e1⟩
        · simp only at q2; omega
  refine ⟨ρ', ?_, hρ, hρ1, rout, rin, keepO⟩
  have r1 : ∀ x s, x ∈ H2.objs → ((nj ≤ x.1 ∧ x.1 < nj1) ∨ x.1 ∈ T) → ρ' x.1 = some s → ρ1 x.1 = some s := fun x s hx2 hc hs => by
    rcases hc with h | h
    · rw [rin x.1 h.1 h.2] at hs; exact hs
    · have := (hT x.1 h).1
      rw [rout x.1 (by omega)] at hs
      rw [low x.1 this]; exact hs
  have r2 : ∀ x s, x ∈ O → ρ' x.1 = some s → ρ x.1 = some s := fun x s hx2 hs => by
    rw [rout x.1 (outO x hx2)] at hs; exact hs
  exact
  { inv := ⟨fun k hk => by
        simp only at hk
        rw [rout k (by omega)]
        exact hx.inv.dom k hk,
      fun k o hm => by
        rcases (hO _).1 hm with ⟨g1, g2⟩ | ⟨g1, _⟩
        · have := n1.inv.wf k o g1
          simp only; omega
        · exact hx.inv.wf k o g1,
      fun k o1 o2 m1 m2 => by
        rcases (hO _).1 m1 with ⟨g1, g2⟩ | ⟨g1, g2⟩ <;> rcases (hO _).1 m2 with ⟨k1, k2⟩ | ⟨k1, k2⟩
        · exact n1.inv.one k o1 o2 g1 k1
        · rcases g2 with g2 | g2
          · exact absurd g2 (outO (k, o2) k1)
          · exact absurd g2 k2
        · rcases k2 with k2 | k2
          · exact absurd k2 (outO (k, o1) g1)
          · exact absurd k2 g2
        · exact hx.inv.one k o1 o2 g1 k1,
      ⟨fun k o hm => by
        rcases (hO _).1 hm with ⟨g1, g2⟩ | ⟨g1, g2⟩
        · obtain ⟨s, e1, e2⟩ := n1.inv.rel.obj k o g1
          exact ⟨s, hρ1 k s e1, e2.mono hρ1⟩
        · obtain ⟨s, e1, e2⟩ := hx.inv.rel.obj k o g1
          exact ⟨s, hρ k s e1, (e2.mono hρ).heap (keepO (k, o) s g1 g2 e1)⟩,
       fun k o k' o' s s' m1 m2 m3 m4 m5 => by
        rcases (hO _).1 m1 with ⟨g1, g2⟩ | ⟨g1, g2⟩ <;> rcases (hO _).1 m2 with ⟨k1, k2⟩ | ⟨k1, k2⟩
        · exact n1.inv.rel.inj k o k' o' s s' g1 k1 (r1 (k, o) s g1 g2 m3) (r1 (k', o') s' k1 k2 m4) m5
        · rcases h2map (k, o) s g1 (r1 (k, o) s g1 g2 m3) g2 with ⟨q, _⟩ | ⟨y, sy, y1, y2, y3, y4, _⟩
          · have := olt (k', o') s' k1 (r2 (k', o') s' k1 m4); omega
          · have := hx.inv.rel.inj y.1 y.2 k' o' sy s' y1 k1 y3 (r2 (k', o') s' k1 m4) (by omega)
            simp only at k2
            rw [this] at y2
            exact absurd y2 k2
        · rcases h2map (k', o') s' k1 (r1 (k', o') s' k1 k2 m4) k2 with ⟨q, _⟩ | ⟨y, sy, y1, y2, y3, y4, _⟩
          · have := olt (k, o) s g1 (r2 (k, o) s g1 m3); omega
          · have := hx.inv.rel.inj y.1 y.2 k o sy s y1 g1 y3 (r2 (k, o) s g1 m3) (by omega)
            simp only at g2
            rw [this] at y2
            exact absurd y2 g2
        · exact hx.inv.rel.inj k o k' o' s s' g1 k1 (r2 (k, o) s g1 m3) (r2 (k', o') s' k1 m4) m5⟩⟩
    same := fun k hk => by rw [rout k (by omega)]; exact hx.same k hk
    nx := hx.nx
    size := Nat.le_trans hx.size n1.size
    os := n1.os.trans hx.os
    tape := n1.tape.trans hx.tape
    output := n1.output.trans hx.output
    keep := fun b hb hnn => by
      rw [← hx.keep b hb hnn]
      refine n1.keep b (Nat.lt_of_lt_of_le hb hx.size) fun k o s g1 g2 g3 g4 => ?_
      obtain ⟨q1, q2⟩ := hV _ g2
      rcases hl with ⟨h', _⟩ | ⟨h', _⟩
      · rcases hx.own k o s (by omega) q1 (cut_some.1 g3).2 with h | ⟨k', o', s', e1, e2, e3, e4⟩
        · omega
        · exact hnn k' o' s' e1 e2 e3 (e4.trans g4)
      · simp only at q2; omega
    own := fun k o s hk hm hs => by
      rcases (hO _).1 hm with ⟨g1, g2⟩ | ⟨g1, g2⟩
      · rcases h2map (k, o) s g1 (r1 (k, o) s g1 g2 hs) g2 with ⟨q, _⟩ | ⟨y, sy, y1, y2, y3, y4, y5⟩
        · exact .inl (Nat.le_trans hx.size q)
        · rcases hx.own y.1 y.2 sy (y5 hk) y1 y3 with h | ⟨k', o', s', e1, e2, e3, e4⟩
          · exact .inl (by omega)
          · exact .inr ⟨k', o', s', e1, e2, e3, e4.trans y4⟩
      · exact hx.own k o s hk g1 (r2 (k, o) s g1 hs)
    old := fun k o hk => by
      rw [← hx.old k o hk, hO]
      constructor
      · rintro (⟨g1, g2⟩ | ⟨g1, _⟩)
        · rcases g2 with g2 | g2
          · simp only at g2; omega
          · have hin := (n1.old k o (by rcases hl with ⟨h', _⟩ | ⟨h', _⟩ <;> omega)).1 g1
            exact (hV _ hin).1
        · exact g1
      · intro hm
        by_cases hk2 : k ∈ T
        · have hin := (hT k hk2).2 o hm
          exact .inl ⟨(n1.old k o (by rcases hl with ⟨h', _⟩ | ⟨h', _⟩ <;> omega)).2 hin, .inr hk2⟩
        · exact .inr ⟨hm, hk2⟩ }

section
variable {C : Cx} {lo sz : Nat} {ops : Array Oper} {vals : Nat → Value} {heaps : Nat → AH} {envs : Nat → Env} {seen : Nat → Option (List Nat)} {tch : Nat → List Nat}

def TraceOk (C : Cx) (lo sz : Nat) (ops : Array Oper) (vals : Nat → Value) (heaps : Nat → AH) (envs : Nat → Env) (seen : Nat → Option (List Nat)) (tch : Nat → List Nat) : Prop :=
  ∀ (j : Nat) o, ops[j]? = some o → dstOk sz o = true ∧ StepOk C lo ops ((masks ops).getD j 0) heaps seen tch j o (restrE (envs j) (readsOf ops o)) (vals j) ∧ envs (j + 1) = putE o (vals j) (envs j)

theorem trace_mono (ht : TraceOk C lo sz ops vals heaps envs seen tch) {j : Nat} (hj : j < ops.size) : (heaps j).next ≤ (heaps (j + 1)).next := by
  obtain ⟨_, hs, _⟩ := ht j ops[j] (by simp [hj])
  rcases hs with ⟨_, _, h, _⟩ | ⟨_, _, h, _⟩ | ⟨_, _, V, H2, l, vis, _, _, _, _, _, h1, h2, _⟩
  · rw [h]; exact Nat.le_refl _
  · rw [h]; exact Nat.le_refl _
  · rw [h2]; exact h1
theorem trace_le (ht : TraceOk C lo sz ops vals heaps envs seen tch) : ∀ (d i : Nat), i + d ≤ ops.size → (heaps i).next ≤ (heaps (i + d)).next
  | 0, i, _ => Nat.le_refl _
  | d + 1, i, h => Nat.le_trans (trace_le ht d i (by omega)) (trace_mono ht (j := i + d) (by omega))
theorem trace_le' (ht : TraceOk C lo sz ops vals heaps envs seen tch) {i j : Nat} (h : i ≤ j) (hj : j ≤ ops.size) : (heaps i).next ≤ (heaps j).next := by
  have := trace_le ht (j - i) i (by omega)
  rwa [show i + (j - i) = j by omega] at this

theorem trace_env (ht : TraceOk C lo sz ops vals heaps envs seen tch) (t : Tmp) : ∀ i, i ≤ ops.size →
    (∃ j o, j < i ∧ ops[j]? = some o ∧ o.dst = some t ∧ getE t (envs i) = some (vals j)) ∨ ((∀ (j : Nat) o, j < i → ops[j]? = some o → o.dst ≠ some t) ∧ getE t (envs i) = getE t (envs 0))
  | 0, _ => .inr ⟨fun j o h => by omega, rfl⟩
  | i + 1, hi => by
    have hlt : i < ops.size := by omega
    obtain ⟨_, _, he⟩ := ht i ops[i] (by simp [hlt])
    have ih := trace_env ht t i (by omega)
    rw [he]
    unfold putE
    cases hd : (ops[i]).dst with
    | none =>
      simp only
      rcases ih with ⟨j, o, h1, h2, h3, h4⟩ | ⟨h1, h2⟩
      · exact .inl ⟨j, o, by omega, h2, h3, h4⟩
      · refine .inr ⟨fun j o hj ho => ?_, h2⟩
        by_cases hji : j = i
        · subst hji; simp [hlt] at ho; subst ho; rw [hd]; simp
        · exact h1 j o (by omega) ho
    | some d =>
      simp only [getE]
      cases hb : Nat.beq d t with
      | true =>
        have := Nat.eq_of_beq_eq_true hb
        subst this
        exact .inl ⟨i, ops[i], by omega, by simp [hlt], hd, rfl⟩
      | false =>
        have hne : d ≠ t := fun e => by subst e; simp at hb
        simp only [cond_false]
        rcases ih with ⟨j, o, h1, h2, h3, h4⟩ | ⟨h1, h2⟩
        · exact .inl ⟨j, o, by omega, h2, h3, h4⟩
        · refine .inr ⟨fun j o hj ho => ?_, h2⟩
          by_cases hji : j = i
          · subst hji; simp [hlt] at ho; subst ho; rw [hd]; simp [hne]
          · exact h1 j o (by omega) ho


/-- the operation makes that block, or writes to it -/
def Touch (heaps : Nat → AH) (tch : Nat → List Nat) (t k : Nat) : Prop := ((heaps t).next ≤ k ∧ k < (heaps (t + 1)).next) ∨ k ∈ tch t

theorem touch_lt (ht : TraceOk C lo sz ops vals heaps envs seen tch) {t k : Nat} (hts : t < ops.size) (h : Touch heaps tch t k) : k < (heaps (t + 1)).next := by
  rcases h with h | h
  · exact h.2
  · obtain ⟨_, hs, _⟩ := ht t ops[t] (by simp [hts])
    rcases hs with ⟨_, _, _, _, g⟩ | ⟨_, _, _, _, g, _⟩ | ⟨_, _, V, H2, l, vis, _, _, _, g, _, h1, h2, _⟩
    · rw [g] at h; simp at h
    · rw [g] at h; simp at h
    · have := (g k h).2.1; omega
theorem no_touch (ht : TraceOk C lo sz ops vals heaps envs seen tch) {t : Nat} (hts : t < ops.size) {x : Nat × AObj} (h : ¬ Touch heaps tch t x.1) :
    (x ∈ (heaps (t + 1)).objs → x ∈ (heaps t).objs) ∧ (x.1 < (heaps t).next → x ∈ (heaps t).objs → x ∈ (heaps (t + 1)).objs) := by
  obtain ⟨_, hs, _⟩ := ht t ops[t] (by simp [hts])
  rcases hs with ⟨_, _, g, _⟩ | ⟨_, _, g, _⟩ | ⟨_, _, V, H2, l, vis, _, _, _, _, _, _, h2, h3, _⟩
  · rw [g]; exact ⟨fun h => h, fun _ h => h⟩
  · rw [g]; exact ⟨fun h => h, fun _ h => h⟩
  · refine ⟨fun hx => ?_, fun hl hx => (h3 x).2 (.inr ⟨hx, fun g => h (.inr g), hl⟩)⟩
    rcases (h3 x).1 hx with ⟨_, g⟩ | ⟨g, _⟩
    · rw [← h2] at g; exact absurd g h
    · exact g
theorem chain_back (ht : TraceOk C lo sz ops vals heaps envs seen tch) {x : Nat × AObj} {a : Nat} : ∀ d, a + d ≤ ops.size → (∀ t, a ≤ t → t < a + d → ¬ Touch heaps tch t x.1) → x ∈ (heaps (a + d)).objs → x ∈ (heaps a).objs
  | 0, _, _, h => h
  | d + 1, hd, hn, h => chain_back ht d (by omega) (fun t h1 h2 => hn t h1 (by omega)) ((no_touch ht (t := a + d) (by omega) (hn _ (by omega) (by omega))).1 h)
theorem chain_on (ht : TraceOk C lo sz ops vals heaps envs seen tch) {x : Nat × AObj} {a : Nat} (hl : x.1 < (heaps a).next) : ∀ d, a + d ≤ ops.size → (∀ t, a ≤ t → t < a + d → ¬ Touch heaps tch t x.1) → x ∈ (heaps a).objs → x ∈ (heaps (a + d)).objs
  | 0, _, _, h => h
  | d + 1, hd, hn, h => (no_touch ht (t := a + d) (by omega) (hn _ (by omega) (by omega))).2 (Nat.lt_of_lt_of_le hl (trace_le ht d a (by omega))) (chain_on ht hl d (by omega) (fun t h1 h2 => hn t h1 (by omega)) h)
theorem chain_back' (ht : TraceOk C lo sz ops vals heaps envs seen tch) {x : Nat × AObj} {a b : Nat} (hab : a ≤ b) (hb : b ≤ ops.size) (hn : ∀ t, a ≤ t → t < b → ¬ Touch heaps tch t x.1) (h : x ∈ (heaps b).objs) : x ∈ (heaps a).objs :=
  chain_back ht (b - a) (by omega) (fun t h1 h2 => hn t h1 (by omega)) (by rw [show a + (b - a) = b by omega]; exact h)
theorem chain_on' (ht : TraceOk C lo sz ops vals heaps envs seen tch) {x : Nat × AObj} {a b : Nat} (hab : a ≤ b) (hb : b ≤ ops.size) (hl : x.1 < (heaps a).next) (hn : ∀ t, a ≤ t → t < b → ¬ Touch heaps tch t x.1) (h : x ∈ (heaps a).objs) : x ∈ (heaps b).objs := by
  have := chain_on ht hl (b - a) (by omega) (fun t h1 h2 => hn t h1 (by omega)) h
  rwa [show a + (b - a) = b by omega] at this
theorem range_one (ht : TraceOk C lo sz ops vals heaps envs seen tch) {t u k : Nat} (h0 : t < ops.size) (h0' : u < ops.size) (h1 : (heaps t).next ≤ k) (h2 : k < (heaps (t + 1)).next) (h3 : (heaps u).next ≤ k) (h4 : k < (heaps (u + 1)).next) : t = u := by
  rcases Nat.lt_trichotomy t u with g | g | g
  · have := trace_le' ht (show t + 1 ≤ u by omega) (by omega); omega
  · exact g
  · have := trace_le' ht (show u + 1 ≤ t by omega) (by omega); omega

def Last (ops : Array Oper) (heaps : Nat → AH) (tch : Nat → List Nat) (listed : Array Bool) (k t : Nat) : Prop :=
  t < ops.size ∧ listed.getD t true = true ∧ Touch heaps tch t k ∧ ∀ t', t < t' → t' < ops.size → listed.getD t' true = true → ¬ Touch heaps tch t' k
def NoT (ops : Array Oper) (heaps : Nat → AH) (tch : Nat → List Nat) (listed : Array Bool) (k : Nat) : Prop := ∀ t, t < ops.size → listed.getD t true = true → ¬ Touch heaps tch t k
def ObjP (ops : Array Oper) (heaps : Nat → AH) (tch : Nat → List Nat) (listed : Array Bool) (x : Nat × AObj) : Prop :=
  (∃ t, Last ops heaps tch listed x.1 t ∧ x ∈ (heaps (t + 1)).objs) ∨ (NoT ops heaps tch listed x.1 ∧ x ∈ (heaps 0).objs)

/-- The state after some of the operations. -/
structure DS (lo sz : Nat) (ops : Array Oper) (vals : Nat → Value) (heaps : Nat → AH) (envs : Nat → Env) (tch : Nat → List Nat) (ρ0 : Map) (w0 : World) (df : List Deferred) (ρ : Map) (O : Objs) (listed : Array Bool) (a : Act) (w : World) : Prop where
  len : listed.size = ops.size
  cl : ∀ (i : Nat) o, ops[i]? = some o → listed.getD i true = true → ∀ e ∈ o.after, Region.binds .any e = true → listed.getD e.on false = true
  obj : ∀ x, x ∈ O ↔ ObjP ops heaps tch listed x
  nx : Next lo ρ0 (heaps 0) w0 ρ ⟨(heaps ops.size).next, O⟩ w
  non : ∀ t, t < ops.size → listed.getD t true = false → ∀ k, (heaps t).next ≤ k → k < (heaps (t + 1)).next → ρ k = none
  hasL : ∀ x, x ∈ O → ∀ t, Last ops heaps tch listed x.1 t → ∀ s, ρ x.1 = some s → OHas (cut ρ (heaps (t + 1)).next) x.2 s w
  has0 : ∀ x, x ∈ O → NoT ops heaps tch listed x.1 → ∀ s, ρ x.1 = some s → OHas (cut ρ (heaps 0).next) x.2 s w
  envA : ∀ (i : Nat) o t, ops[i]? = some o → o.dst = some t → listed.getD i true = true → ∃ v', a.tmps[t]? = some v' ∧ VRel (cut ρ (heaps (i + 1)).next) (vals i) v'
  envB : ∀ t, (∀ (i : Nat) o, ops[i]? = some o → o.dst = some t → listed.getD i true = false) → ∀ u, getE t (envs 0) = some u → ∃ v', a.tmps[t]? = some v' ∧ VRel ρ0 u v'
  sz : a.tmps.size = sz
  df : a.defers = df

theorem set_getD {listed : Array Bool} {i j : Nat} (hi : i < listed.size) (d : Bool) : (listed.setIfInBounds i true).getD j d = if j = i then true else listed.getD j d := by
  by_cases h : j = i
  · subst h; simp [hi]
  · rw [getD_set_ne d (Ne.symm h), if_neg h]

theorem getD_true {listed : Array Bool} {j : Nat} (h : listed.getD j false = true) : listed.getD j true = true := by
  rcases Nat.lt_or_ge j listed.size with g | g
  · simp [g] at h ⊢; exact h
  · simp [Array.getD, Nat.not_lt.2 g] at h
theorem getD_false {listed : Array Bool} {j : Nat} (hj : j < listed.size) (h : listed.getD j true = true) : listed.getD j false = true := by
  simp [hj] at h ⊢; exact h

section
variable {ρ0 : Map} {w0 w : World} {df : List Deferred} {ρ : Map} {O : Objs} {listed : Array Bool} {a : Act}

theorem DS.bits (hd : DS lo sz ops vals heaps envs tch ρ0 w0 df ρ O listed a w) {i : Nat} {o : Oper} (ho : ops[i]? = some o) (hpre : ∀ e ∈ o.after, Region.binds .any e = true → listed.getD e.on false = true)
    {j : Nat} (hj : Nat.testBit ((masks ops).getD i 0) j = true) : listed.getD j true = true :=
  masks_spec (S := fun j => listed.getD j true = true) (fun i o ho hl e he hb => getD_true (hd.cl i o ho hl e (by simpa using he) hb)) ho (fun e he hb => getD_true (hpre e (by simpa using he) hb)) hj

/-- An operation that lies behind one that is not listed isn't either. -/
theorem DS.behind (hd : DS lo sz ops vals heaps envs tch ρ0 w0 df ρ O listed a w) {i j : Nat} {oj : Oper} (hun : listed.getD i true = false) (hj : ops[j]? = some oj)
    (hb : Nat.testBit ((masks ops).getD j 0) i = true) : listed.getD j true = false := by
  cases hl : listed.getD j true with
  | false => rfl
  | true =>
    have := hd.bits hj (hd.cl j oj hj hl) hb
    rw [this] at hun
    cases hun

/-- What a ready operation reads is there. -/
theorem DS.reads (ht : TraceOk C lo sz ops vals heaps envs seen tch) (hi0 : Inv ρ0 (heaps 0) w0)
    (hok : ∀ (i j : Nat) oi oj, i < j → ops[i]? = some oi → ops[j]? = some oj → pairOk ops i oi oj ((masks ops).getD j 0) = true)
    (hd : DS lo sz ops vals heaps envs tch ρ0 w0 df ρ O listed a w) {i : Nat} {o : Oper} (ho : ops[i]? = some o) (hun : listed.getD i true = false)
    (hpre : ∀ e ∈ o.after, Region.binds .any e = true → listed.getD e.on false = true) : EnvRel (cut ρ (heaps i).next) (restrE (envs i) (readsOf ops o)) a.tmps := by
  intro t u hu
  obtain ⟨hmem, hget⟩ := getE_restr hu
  have hlt : i < ops.size := (Array.getElem?_eq_some_iff.1 ho).1
  have hin : (readsOf ops o).any (Nat.beq t) = true := List.any_eq_true.2 ⟨t, hmem, by simp⟩
  rcases trace_env ht t i (by omega) with ⟨j, oj, h1, h2, h3, h4⟩ | ⟨h1, h2⟩
  · rw [hget] at h4
    cases h4
    have := hok j i oj o h1 h2 ho
    unfold pairOk at this
    rw [h3] at this
    simp only [Bool.and_eq_true] at this
    have h2' := this.1.2
    rw [hin] at h2'
    obtain ⟨v', g1, g2⟩ := hd.envA j oj t h2 h3 (hd.bits ho hpre (by simpa using h2'))
    exact ⟨v', g1, g2.mono (cut_mono (fun _ _ h => h) (trace_le' ht (by omega) (by omega)))⟩
  · rw [h2] at hget
    obtain ⟨v', g1, g2⟩ := hd.envB t (fun j oj hj hdj => by
      rcases Nat.lt_trichotomy j i with h | h | h
      · exact absurd hdj (h1 j oj h hj)
      · subst h; exact hun
      · have := hok i j o oj h ho hj
        unfold pairOk at this
        rw [hdj] at this
        simp only [Bool.and_eq_true] at this
        have h2' := this.2
        rw [hin] at h2'
        exact hd.behind hun hj (by simpa using h2')) u hget
    refine ⟨v', g1, g2.mono fun k q hk => ?_⟩
    have hlt0 := hi0.lt hk
    refine cut_some.2 ⟨Nat.lt_of_lt_of_le hlt0 (trace_le' ht (Nat.zero_le _) (by omega)), ?_⟩
    rw [hd.nx.same k hlt0]; exact hk

/-- Slots behind one more operation. -/
theorem DS.put (ht : TraceOk C lo sz ops vals heaps envs seen tch)
    (hok : ∀ (i j : Nat) oi oj, i < j → ops[i]? = some oi → ops[j]? = some oj → pairOk ops i oi oj ((masks ops).getD j 0) = true)
    (hd : DS lo sz ops vals heaps envs tch ρ0 w0 df ρ O listed a w) {i : Nat} {o : Oper} (ho : ops[i]? = some o) (hun : listed.getD i true = false)
    (hpre : ∀ e ∈ o.after, Region.binds .any e = true → listed.getD e.on false = true) {v' : Value} {ρ' : Map} {O' : Objs} {w' : World} (hv : VRel (cut ρ' (heaps (i + 1)).next) (vals i) v')
    (hρ : ∀ k q, ρ k = some q → ρ' k = some q)
    (obj : ∀ x, x ∈ O' ↔ ObjP ops heaps tch (listed.setIfInBounds i true) x)
    (nx : Next lo ρ0 (heaps 0) w0 ρ' ⟨(heaps ops.size).next, O'⟩ w')
    (non : ∀ t, t < ops.size → (listed.setIfInBounds i true).getD t true = false → ∀ k, (heaps t).next ≤ k → k < (heaps (t + 1)).next → ρ' k = none)
    (hasL : ∀ x, x ∈ O' → ∀ t, Last ops heaps tch (listed.setIfInBounds i true) x.1 t → ∀ s, ρ' x.1 = some s → OHas (cut ρ' (heaps (t + 1)).next) x.2 s w')
    (has0 : ∀ x, x ∈ O' → NoT ops heaps tch (listed.setIfInBounds i true) x.1 → ∀ s, ρ' x.1 = some s → OHas (cut ρ' (heaps 0).next) x.2 s w') :
    DS lo sz ops vals heaps envs tch ρ0 w0 df ρ' O' (listed.setIfInBounds i true) (a.put o.dst v') w' := by
  have hlt : i < listed.size := by rw [hd.len]; exact (Array.getElem?_eq_some_iff.1 ho).1
  have hdst := (ht i o ho).1
  refine
  { len := by simp [hd.len]
    cl := fun j oj hj hl e he hb => ?_
    obj := obj, nx := nx, non := non, hasL := hasL, has0 := has0
    envA := fun j oj t hj hdj hl => ?_
    envB := fun t hno u hu => ?_
    sz := by rw [put_size, hd.sz]
    df := by rw [put_defers, hd.df] }
  · rw [set_getD hlt] at hl
    rw [set_getD hlt]
    split
    · rfl
    · by_cases hji : j = i
      · subst hji; rw [ho] at hj; cases hj; exact hpre e he hb
      · rw [if_neg hji] at hl; exact hd.cl j oj hj hl e he hb
  · rw [set_getD hlt] at hl
    by_cases hji : j = i
    · subst hji
      rw [ho] at hj
      cases hj
      unfold dstOk at hdst
      rw [hdj] at hdst
      simp only [Nat.blt_eq] at hdst
      refine ⟨v', ?_, hv⟩
      have : t < a.tmps.size := by rw [hd.sz]; exact hdst
      simp [Act.put, hdj, this]
    · rw [if_neg hji] at hl
      obtain ⟨u', h1, h2⟩ := hd.envA j oj t hj hdj hl
      refine ⟨u', ?_, h2.mono (cut_mono hρ (Nat.le_refl _))⟩
      cases hdo : o.dst with
      | none => exact h1
      | some d =>
        have hne : d ≠ t := fun e => by
          subst e
          rcases Nat.lt_or_gt_of_ne hji with h | h
          · have := hok j i oj o h hj ho
            simp [pairOk, hdj, hdo] at this
          · have := hok i j o oj h ho hj
            simp [pairOk, hdj, hdo] at this
        simp only [Act.put]
        rw [Array.getElem?_setIfInBounds_ne hne]
        exact h1
  · have hi := hno i o ho
    have hne : o.dst ≠ some t := fun e => by
      have := hi e
      rw [set_getD hlt, if_pos rfl] at this
      cases this
    obtain ⟨u', h1, h2⟩ := hd.envB t (fun j oj hj hdj => by
      have := hno j oj hj hdj
      rw [set_getD hlt] at this
      split at this
      · cases this
      · exact this) u hu
    refine ⟨u', ?_, h2⟩
    cases hdo : o.dst with
    | none => exact h1
    | some d =>
      have : d ≠ t := fun e => hne (by rw [hdo, e])
      simp only [Act.put]
      rw [Array.getElem?_setIfInBounds_ne this]
      exact h1
end



theorem last_of {P : Nat → Prop} : ∀ n : Nat, (∃ t, t < n ∧ P t ∧ ∀ t', t < t' → t' < n → ¬ P t') ∨ ∀ t, t < n → ¬ P t
  | 0 => .inr fun t h => by omega
  | n + 1 => by
    rcases Classical.em (P n) with h | h
    · exact .inl ⟨n, by omega, h, fun t' h1 h2 => by omega⟩
    · rcases last_of n with ⟨t, h1, h2, h3⟩ | h1
      · refine .inl ⟨t, by omega, h2, fun t' h4 h5 => ?_⟩
        rcases Nat.lt_or_ge t' n with g | g
        · exact h3 t' h4 g
        · have : t' = n := by omega
          subst this; exact h
      · refine .inr fun t h2 => ?_
        rcases Nat.lt_or_ge t n with g | g
        · exact h1 t g
        · have : t = n := by omega
          subst this; exact h

theorem set_true {l : Array Bool} {i u : Nat} (hi : i < l.size) (h : l.getD u true = true) : (l.setIfInBounds i true).getD u true = true := by
  rw [set_getD hi]
  split
  · rfl
  · exact h

theorem wpAny_draw (hdraw : drawOk ops = true) (ht : TraceOk C lo sz ops vals heaps envs seen tch) {ρ0 : Map} {w0 : World} {df : List Deferred} (hi : Inv ρ0 (heaps 0) w0) (hlo : lo ≤ (heaps 0).next)
    {Q : Exit → Act → World → Prop}
    (hQ : ∀ ρ' a' w', Next lo ρ0 (heaps 0) w0 ρ' (heaps ops.size) w' → EnvRel ρ' (envs ops.size) a'.tmps → a'.tmps.size = sz → a'.defers = df → Q .normal a' w') :
    ∀ (fuel : Nat) (ρ : Map) (O : Objs) (listed : Array Bool) (a : Act) (w : World) (S : List Nat), DS lo sz ops vals heaps envs tch ρ0 w0 df ρ O listed a w → S.length ≤ fuel → (∀ i, i < ops.size → listed.getD i true = false → i ∈ S) →
      wpAny C.P .any ops Q fuel listed a w := by
  obtain ⟨hedge, hok⟩ := drawOk_spec hdraw
  have fin : ∀ (ρ : Map) (O : Objs) (listed : Array Bool) (a : Act) (w : World), DS lo sz ops vals heaps envs tch ρ0 w0 df ρ O listed a w → (∀ i, i < ops.size → listed.getD i true = true) → Q .normal a w := by
    intro ρ O listed a w hd hall
    have hO : ∀ x, x ∈ (heaps ops.size).objs ↔ x ∈ O := fun x => by
      rw [hd.obj x]
      constructor
      · intro hx
        rcases last_of (P := fun t => Touch heaps tch t x.1) ops.size with ⟨t, h1, h2, h3⟩ | h1
        · exact .inl ⟨t, ⟨h1, hall t h1, h2, fun t' h4 h5 _ => h3 t' h4 h5⟩, chain_back' ht (by omega) (Nat.le_refl _) (fun u h4 h5 => h3 u (by omega) h5) hx⟩
        · exact .inr ⟨fun t h2 _ => h1 t h2, chain_back' ht (Nat.zero_le _) (Nat.le_refl _) (fun u _ h5 => h1 u h5) hx⟩
      · rintro (⟨t, ⟨h1, _, h2, h3⟩, hx⟩ | ⟨h1, hx⟩)
        · exact chain_on' ht (by omega) (Nat.le_refl _) (touch_lt ht h1 h2) (fun u h4 h5 => h3 u (by omega) h5 (hall u h5)) hx
        · exact chain_on' ht (Nat.zero_le _) (Nat.le_refl _) (hi.wf x.1 x.2 hx) (fun u _ h5 => h1 u h5 (hall u h5)) hx
    have hN : Next lo ρ0 (heaps 0) w0 ρ (heaps ops.size) w := hd.nx.objs (trace_le' ht (Nat.zero_le _) (Nat.le_refl _)) hd.nx.inv.dom hO (fun x hx => hd.nx.inv.wf x.1 x.2 ((hO x).1 hx))
    refine hQ ρ a w hN (fun t u hu => ?_) hd.sz hd.df
    rcases trace_env ht t ops.size (Nat.le_refl _) with ⟨j, oj, h1, h2, h3, h4⟩ | ⟨h1, h2⟩
    · rw [hu] at h4
      cases h4
      obtain ⟨v', g1, g2⟩ := hd.envA j oj t h2 h3 (hall j h1)
      exact ⟨v', g1, g2.mono (cut_le fun _ _ _ h => h)⟩
    · rw [h2] at hu
      obtain ⟨v', g1, g2⟩ := hd.envB t (fun j oj hj hdj => absurd hdj (h1 j oj (Array.getElem?_eq_some_iff.1 hj).1 hj)) u hu
      exact ⟨v', g1, g2.mono (hN.ext hi)⟩
  have allOf : ∀ (ρ : Map) (O : Objs) (listed : Array Bool) (a : Act) (w : World), DS lo sz ops vals heaps envs tch ρ0 w0 df ρ O listed a w → Region.ready .any ops listed = [] → ∀ i, i < ops.size → listed.getD i true = true := by
    intro ρ O listed a w hd hr i
    induction i using Nat.strongRecOn with
    | _ i ih =>
      intro hlt
      cases hl : listed.getD i true with
      | true => rfl
      | false =>
        have : i ∈ Region.ready .any ops listed := mem_ready.2 ⟨hl, ops[i], by simp [hlt], fun e he hb => by
          have hlt' := hedge i ops[i] (by simp [hlt]) e he hb
          exact getD_false (by rw [hd.len]; omega) (ih e.on hlt' (by omega))⟩
        rw [hr] at this
        cases this
  intro fuel
  induction fuel with
  | zero =>
    intro ρ O listed a w S hd hS hun
    have : S = [] := List.length_eq_zero_iff.1 (by omega)
    subst this
    have hall : ∀ i, i < ops.size → listed.getD i true = true := fun i hi => by
      cases hl : listed.getD i true with
      | true => rfl
      | false => exact absurd (hun i hi hl) (by simp)
    refine ⟨?_, fin ρ O listed a w hd hall⟩
    cases hr : Region.ready .any ops listed with
    | nil => rfl
    | cons i r =>
      have hm : i ∈ Region.ready .any ops listed := by rw [hr]; simp
      obtain ⟨h1, o, ho, _⟩ := mem_ready.1 hm
      rw [hall i (Array.getElem?_eq_some_iff.1 ho).1] at h1
      cases h1
  | succ fuel ih =>
    intro ρ O listed a w S hd hS hun
    refine ⟨fun hr => fin ρ O listed a w hd (allOf ρ O listed a w hd hr), fun i hir => ?_⟩
    obtain ⟨hl, o, ho, hpre⟩ := mem_ready.1 hir
    have hlt : i < ops.size := (Array.getElem?_eq_some_iff.1 ho).1
    have hlt' : i < listed.size := by rw [hd.len]; exact hlt
    have hread := hd.reads ht hi hok ho hl hpre
    obtain ⟨hdst, hstep, _⟩ := ht i o ho
    have hni := trace_mono ht hlt
    have hn0 := trace_le' ht (Nat.zero_le i) (by omega)
    have hnz := trace_le' ht (show i + 1 ≤ ops.size by omega) (Nat.le_refl _)
    have hnext : ∀ (ρ' : Map) (O' : Objs) (a' : Act) (w' : World), DS lo sz ops vals heaps envs tch ρ0 w0 df ρ' O' (listed.setIfInBounds i true) a' w' → wpAny C.P .any ops Q fuel (listed.setIfInBounds i true) a' w' := by
      intro ρ' O' a' w' hd'
      have hiS := hun i hlt hl
      refine ih ρ' O' _ a' w' (S.erase i) hd' (by rw [List.length_erase_of_mem hiS]; omega) fun j hj hlj => ?_
      rw [set_getD hlt'] at hlj
      split at hlj
      · cases hlj
      · rename_i hne
        exact (List.mem_erase_of_ne hne).2 (hun j hj hlj)
    have noneR : ∀ k, (heaps i).next ≤ k → k < (heaps (i + 1)).next → ρ k = none := fun k h1 h2 => hd.non i hlt hl k h1 h2
    /- nothing that is listed touches what this one touches, behind it -/
    have after : ∀ k, Touch heaps tch i k → ∀ t, i < t → t < ops.size → listed.getD t true = true → ¬ Touch heaps tch t k := fun k hk t h1 h2 h3 h4 => by
      obtain ⟨_, hst, _⟩ := ht t ops[t] (by simp [h2])
      have hbit : Nat.testBit ((masks ops).getD t 0) i = false := by
        cases hb : Nat.testBit ((masks ops).getD t 0) i with
        | false => rfl
        | true =>
          have := hd.behind hl (j := t) (oj := ops[t]) (by simp [h2]) hb
          rw [this] at h3; cases h3
      rcases h4 with h4 | h4
      · rcases hk with hk | hk
        · have := range_one ht hlt h2 hk.1 hk.2 h4.1 h4.2; omega
        · have := touch_lt ht hlt (.inr hk)
          have := trace_le' ht (show i + 1 ≤ t by omega) (by omega); omega
      · rcases hst with ⟨_, _, _, _, g⟩ | ⟨_, _, _, _, g, _⟩ | ⟨_, _, V, H2, l, vis, g1, _, _, g2, g3, _⟩
        · rw [g] at h4; simp at h4
        · rw [g] at h4; simp at h4
        · rcases hk with hk | hk
          · rcases g1 k (g2 k h4).2.2 with q | ⟨u, q1, q2, q3, q4⟩
            · omega
            · have := range_one ht hlt (by omega) hk.1 hk.2 q3 q4
              subst this
              rw [hbit] at q2; cases q2
          · have hsee : Sees (seen i) k := by
              rcases hstep with ⟨_, _, _, _, g⟩ | ⟨_, _, _, _, g, _⟩ | ⟨_, _, _, _, _, _, _, _, _, q, _⟩
              · rw [g] at hk; simp at hk
              · rw [g] at hk; simp at hk
              · exact (q k hk).1
            exact (g3 i h1 hbit).2 k h4 hsee
    have lastI : ∀ k, Touch heaps tch i k → Last ops heaps tch (listed.setIfInBounds i true) k i := fun k hk => by
      refine ⟨hlt, by rw [set_getD hlt', if_pos rfl], hk, fun t h1 h2 h3 => ?_⟩
      rw [set_getD hlt', if_neg (by omega)] at h3
      exact after k hk t h1 h2 h3
    have lastN : ∀ k, ¬ Touch heaps tch i k → ∀ t, Last ops heaps tch (listed.setIfInBounds i true) k t ↔ Last ops heaps tch listed k t := fun k hk t => by
      constructor
      · rintro ⟨h1, h2, h3, h4⟩
        have hne : t ≠ i := fun e => by subst e; exact hk h3
        rw [set_getD hlt', if_neg hne] at h2
        exact ⟨h1, h2, h3, fun u g1 g2 g3 => h4 u g1 g2 (set_true hlt' g3)⟩
      · rintro ⟨h1, h2, h3, h4⟩
        refine ⟨h1, set_true hlt' h2, h3, fun u g1 g2 g3 => ?_⟩
        rw [set_getD hlt'] at g3
        split at g3
        · rename_i e; subst e; exact hk
        · exact h4 u g1 g2 g3
    have noN : ∀ k, ¬ Touch heaps tch i k → (NoT ops heaps tch (listed.setIfInBounds i true) k ↔ NoT ops heaps tch listed k) := fun k hk => by
      constructor
      · intro h t h1 h2
        exact h t h1 (set_true hlt' h2)
      · intro h t h1 h2
        rw [set_getD hlt'] at h2
        split at h2
        · rename_i e; subst e; exact hk
        · exact h t h1 h2
    have noI : ∀ k, Touch heaps tch i k → ¬ NoT ops heaps tch (listed.setIfInBounds i true) k := fun k hk h => h i hlt (by rw [set_getD hlt', if_pos rfl]) hk
    have lastEq : ∀ k, Touch heaps tch i k → ∀ t, Last ops heaps tch (listed.setIfInBounds i true) k t → t = i := fun k hk t h => by
      have hI := lastI k hk
      rcases Nat.lt_trichotomy t i with g | g | g
      · exact absurd hk (h.2.2.2 i g hlt hI.2.1)
      · exact g
      · exact absurd h.2.2.1 (hI.2.2.2 t g h.1 h.2.1)
    /- the common step -/
    have go : ∀ (V : Objs) (H2 : AH) (lo' : Nat) (ρ1 : Map) (w' : World) (v' : Value), (∀ x, x ∈ V → x ∈ O ∧ x.1 < (heaps i).next) → ((lo' = lo ∧ ∀ x, x ∈ V → x.1 ∈ tch i) ∨ (lo' = (heaps i).next ∧ tch i = [])) →
        (∀ k, k ∈ tch i → k < (heaps i).next ∧ ∀ o, (k, o) ∈ O → (k, o) ∈ V) → Next lo' (cut ρ (heaps i).next) ⟨(heaps i).next, V⟩ w ρ1 H2 w' → H2.next = (heaps (i + 1)).next → VRel ρ1 (vals i) v' →
        (∀ x, Touch heaps tch i x.1 → (x ∈ (heaps (i + 1)).objs ↔ x ∈ H2.objs)) → wpAny C.P .any ops Q fuel (listed.setIfInBounds i true) (a.put o.dst v') w' := by
      intro V H2 lo' ρ1 w' v' hV hl2 hT n1 hn2 hv hobj
      let O' : Objs := (H2.objs.filter fun x => decide (((heaps i).next ≤ x.1 ∧ x.1 < (heaps (i + 1)).next) ∨ x.1 ∈ tch i)) ++ O.filter fun x => decide (x.1 ∉ tch i)
      have hO' : ∀ x, x ∈ O' ↔ (x ∈ H2.objs ∧ (((heaps i).next ≤ x.1 ∧ x.1 < (heaps (i + 1)).next) ∨ x.1 ∈ tch i)) ∨ (x ∈ O ∧ x.1 ∉ tch i) := fun x => by
        simp only [O', List.mem_append, List.mem_filter, decide_eq_true_eq]
      obtain ⟨ρ', a1, a2, a3, a4, a5, a6⟩ := advance hd.nx hn0 hni hnz hlo hV hl2 hT noneR n1 hn2 hO'
      have notO : ∀ x, x ∈ O → x.1 ∉ tch i → ¬ Touch heaps tch i x.1 := fun x hx hn hT2 => by
        rcases hT2 with h | h
        · obtain ⟨s, e1, _⟩ := hd.nx.inv.rel.obj x.1 x.2 hx
          rw [noneR x.1 h.1 h.2] at e1
          cases e1
        · exact hn h
      refine hnext ρ' O' _ w' (hd.put ht hok ho hl hpre ?_ a2 (fun x => ?_) a1 (fun t h0 h1 k h2 h3 => ?_) (fun x hx t hL s hs => ?_) (fun x hx hN s hs => ?_))
      · exact hv.mono fun k q hk => cut_some.2 ⟨by rw [← hn2]; exact n1.inv.lt hk, a3 k q hk⟩
      · rw [hO' x]
        constructor
        · rintro (⟨h1, h2⟩ | ⟨h1, h2⟩)
          · exact .inl ⟨i, lastI x.1 h2, (hobj x h2).2 h1⟩
          · have hnt := notO x h1 h2
            rcases (hd.obj x).1 h1 with ⟨t, g1, g2⟩ | ⟨g1, g2⟩
            · exact .inl ⟨t, (lastN x.1 hnt t).2 g1, g2⟩
            · exact .inr ⟨(noN x.1 hnt).2 g1, g2⟩
        · rcases Classical.em (Touch heaps tch i x.1) with hT2 | hT2
          · rintro (⟨t, g1, g2⟩ | ⟨g1, g2⟩)
            · have := lastEq x.1 hT2 t g1
              subst this
              exact .inl ⟨(hobj x hT2).1 g2, hT2⟩
            · exact absurd g1 (noI x.1 hT2)
          · rintro (⟨t, g1, g2⟩ | ⟨g1, g2⟩)
            · exact .inr ⟨(hd.obj x).2 (.inl ⟨t, (lastN x.1 hT2 t).1 g1, g2⟩), fun h => hT2 (.inr h)⟩
            · exact .inr ⟨(hd.obj x).2 (.inr ⟨(noN x.1 hT2).1 g1, g2⟩), fun h => hT2 (.inr h)⟩
      · rw [set_getD hlt'] at h1
        by_cases hti : t = i
        · rw [if_pos hti] at h1; cases h1
        · rw [if_neg hti] at h1
          rw [a4 k fun g => hti (range_one ht h0 hlt h2 h3 g.1 g.2)]
          exact hd.non t h0 h1 k h2 h3
      · rcases (hO' x).1 hx with ⟨h1, h2⟩ | ⟨h1, h2⟩
        · have := lastEq x.1 h2 t hL
          subst this
          obtain ⟨s', e1, e2⟩ := n1.inv.rel.obj x.1 x.2 h1
          have e3 := a3 _ _ e1
          rw [hs] at e3
          cases e3
          exact e2.mono fun k q hk => cut_some.2 ⟨by rw [← hn2]; exact n1.inv.lt hk, a3 k q hk⟩
        · have hnt := notO x h1 h2
          have hs' : ρ x.1 = some s := by
            rw [a4 x.1 fun g => hnt (.inl g)] at hs; exact hs
          have e := hd.hasL x h1 t ((lastN x.1 hnt t).1 hL) s hs'
          exact (e.mono (cut_mono a2 (Nat.le_refl _))).heap (a6 x s h1 h2 hs')
      · rcases (hO' x).1 hx with ⟨h1, h2⟩ | ⟨h1, h2⟩
        · exact absurd hN (noI x.1 h2)
        · have hnt := notO x h1 h2
          have hs' : ρ x.1 = some s := by
            rw [a4 x.1 fun g => hnt (.inl g)] at hs; exact hs
          have e := hd.has0 x h1 ((noN x.1 hnt).1 hN) s hs'
          exact (e.mono (cut_mono a2 (Nat.le_refl _))).heap (a6 x s h1 h2 hs')
    have invV : ∀ V : Objs, (∀ x, x ∈ V → x ∈ O ∧ x.1 < (heaps i).next ∧ ∀ s, ρ x.1 = some s → OHas (cut ρ (heaps i).next) x.2 s w) → Inv (cut ρ (heaps i).next) ⟨(heaps i).next, V⟩ w := fun V hV =>
      ⟨fun k hk => by
          cases hc : cut ρ (heaps i).next k with
          | none => rfl
          | some s => have := (cut_some.1 hc).1; simp only at hk; omega,
        fun k o' hm' => (hV _ hm').2.1,
        fun k o' o'' h1 h2 => hd.nx.inv.one k o' o'' (hV _ h1).1 (hV _ h2).1,
        ⟨fun k o' hm' => by
          obtain ⟨q1, q2, q3⟩ := hV _ hm'
          obtain ⟨s, e1, e2⟩ := hd.nx.inv.rel.obj k o' q1
          exact ⟨s, cut_some.2 ⟨q2, e1⟩, q3 s e1⟩,
         fun k o' k' o'' s s' h1 h2 h3 h4 h5 => hd.nx.inv.rel.inj k o' k' o'' s s' (hV _ h1).1 (hV _ h2).1 (cut_some.1 h3).2 (cut_some.1 h4).2 h5⟩⟩
    unfold wpOp
    rw [ho]
    simp only
    rcases hstep with ⟨hwant, hv, hh, hse, hte⟩ | ⟨hwant, hw, hh, hse, hte, H2, hH2, hop⟩ | ⟨hwant, hw, V, H2, lo', vis, hvis, hV, hlo', htch, hpair, hle, hH2, hobj, hop⟩
    · rw [if_neg (by rw [wantE_sound hwant hread]; exact Bool.false_ne_true)]
      have nt : ∀ k, ¬ Touch heaps tch i k := fun k h => by
        rcases h with h | h
        · rw [hh] at h; omega
        · rw [hte] at h; simp at h
      refine hnext ρ O _ w (hd.put ht hok ho hl hpre (by rw [hv]; exact .tuple .nil) (fun _ _ h => h) (fun x => ?_) hd.nx (fun t h0 h1 k h2 h3 => ?_) (fun x hx t hL s hs => hd.hasL x hx t ((lastN x.1 (nt _) t).1 hL) s hs) (fun x hx hN s hs => hd.has0 x hx ((noN x.1 (nt _)).1 hN) s hs))
      · rw [hd.obj x]
        unfold ObjP
        rw [noN x.1 (nt _)]
        simp only [lastN x.1 (nt _)]
      · rw [set_getD hlt'] at h1
        split at h1
        · cases h1
        · exact hd.non t h0 h1 k h2 h3
    · rw [if_pos (wantE_sound hwant hread)]
      have hinv' := invV [] (fun x hx => by simp at hx)
      refine .inl (hop hinv' hread _ Q fun ρ1 w' v' n1 n2 => ?_)
      refine go [] H2 (heaps i).next ρ1 w' v' (fun x hx => by simp at hx) (.inr ⟨rfl, hte⟩) (fun k hk => by rw [hte] at hk; simp at hk) n1 (by rw [hh]; exact hH2) n2 (fun x hT => ?_)
      rcases hT with h | h
      · rw [hh] at h; omega
      · rw [hte] at h; simp at h
    · rw [if_pos (wantE_sound hwant hread)]
      /- what it sees is as the canonical order has it -/
      have klt : ∀ k, vis k → k < (heaps i).next := fun k hk => by
        rcases hvis k hk with g | ⟨t, q1, q2, q3, q4⟩
        · omega
        · have := trace_le' ht (show t + 1 ≤ i by omega) (by omega); omega
      have before : ∀ k, Sees (seen i) k → vis k → ∀ t, t < i → Touch heaps tch t k → listed.getD t true = true := fun k hs hk t h1 h2 => by
        rcases h2 with h2 | h2
        · rcases hvis k hk with g | ⟨u, q1, q2, q3, q4⟩
          · have := trace_le' ht (Nat.zero_le t) (by omega); omega
          · have := range_one ht (by omega) (by omega) h2.1 h2.2 q3 q4
            subst this
            exact hd.bits ho hpre q2
        · cases hb : Nat.testBit ((masks ops).getD i 0) t with
          | true => exact hd.bits ho hpre hb
          | false => exact absurd hs ((hpair t h1 hb).1 k h2)
      have behind : ∀ k, Sees (seen i) k → vis k → ∀ t, i < t → t < ops.size → listed.getD t true = true → ¬ Touch heaps tch t k := fun k hs hk t h1 h2 h3 h4 => by
        rcases h4 with h4 | h4
        · have := klt k hk
          have := trace_le' ht (show i ≤ t by omega) (by omega); omega
        · obtain ⟨_, hst, _⟩ := ht t ops[t] (by simp [h2])
          rcases hst with ⟨_, _, _, _, g⟩ | ⟨_, _, _, _, g, _⟩ | ⟨_, _, V, H2, l, vis, _, _, _, _, g3, _⟩
          · rw [g] at h4; simp at h4
          · rw [g] at h4; simp at h4
          · cases hb : Nat.testBit ((masks ops).getD t 0) i with
            | true =>
              have := hd.behind hl (j := t) (oj := ops[t]) (by simp [h2]) hb
              rw [this] at h3; cases h3
            | false => exact (g3 i h1 hb).2 k h4 hs
      have canon : ∀ x, Sees (seen i) x.1 → vis x.1 → (x ∈ O ↔ x ∈ (heaps i).objs) ∧ (x ∈ O → ∀ s, ρ x.1 = some s → OHas (cut ρ (heaps i).next) x.2 s w) := fun x hs hk => by
        rcases last_of (P := fun t => Touch heaps tch t x.1) i with ⟨t, h1, h2, h3⟩ | h1
        · have hL : Last ops heaps tch listed x.1 t := ⟨by omega, before x.1 hs hk t h1 h2, h2, fun t' g1 g2 g3 => by
            rcases Nat.lt_trichotomy t' i with q | q | q
            · exact h3 t' g1 q
            · subst q; rw [hl] at g3; cases g3
            · exact behind x.1 hs hk t' q g2 g3⟩
          refine ⟨⟨fun hx => ?_, fun hx => (hd.obj x).2 (.inl ⟨t, hL, chain_back' ht (by omega) (by omega) (fun u g1 g2 => h3 u (by omega) g2) hx⟩)⟩, fun hx s hs2 => ?_⟩
          · rcases (hd.obj x).1 hx with ⟨u, g1, g2⟩ | ⟨g1, _⟩
            · have : u = t := by
                rcases Nat.lt_trichotomy u t with q | q | q
                · exact absurd h2 (g1.2.2.2 t q hL.1 hL.2.1)
                · exact q
                · exact absurd g1.2.2.1 (hL.2.2.2 u q g1.1 g1.2.1)
              subst this
              exact chain_on' ht (by omega) (by omega) (touch_lt ht (by omega) h2) (fun v g3 g4 => h3 v (by omega) g4) g2
            · exact absurd h2 (g1 t hL.1 hL.2.1)
          · exact (hd.hasL x hx t hL s hs2).mono (cut_mono (fun _ _ h => h) (trace_le' ht (by omega) (by omega)))
        · have hN : NoT ops heaps tch listed x.1 := fun t g1 g2 g3 => by
            rcases Nat.lt_trichotomy t i with q | q | q
            · exact h1 t q g3
            · subst q; rw [hl] at g2; cases g2
            · exact behind x.1 hs hk t q g1 g2 g3
          refine ⟨⟨fun hx => ?_, fun hx => (hd.obj x).2 (.inr ⟨hN, chain_back' ht (Nat.zero_le _) (by omega) (fun u _ g2 => h1 u g2) hx⟩)⟩, fun hx s hs2 => ?_⟩
          · rcases (hd.obj x).1 hx with ⟨u, g1, g2⟩ | ⟨_, g2⟩
            · exact absurd g1.2.2.1 (hN u g1.1 g1.2.1)
            · exact chain_on' ht (Nat.zero_le _) (by omega) (hi.wf x.1 x.2 g2) (fun u _ g2 => h1 u g2) g2
          · exact (hd.has0 x hx hN s hs2).mono (cut_mono (fun _ _ h => h) hn0)
      have hVO : ∀ x, x ∈ V → x ∈ O ∧ x.1 < (heaps i).next ∧ ∀ s, ρ x.1 = some s → OHas (cut ρ (heaps i).next) x.2 s w := fun x hx => by
        obtain ⟨q1, q2, q3⟩ := (hV x).1 hx
        obtain ⟨c1, c2⟩ := canon x q2 q3
        exact ⟨c1.2 q1, klt x.1 q3, c2 (c1.2 q1)⟩
      refine .inl (hop (invV V hVO) (Nat.le_trans hlo hn0) hread _ Q fun ρ1 w' v' n1 n2 => ?_)
      refine go V H2 lo' ρ1 w' v' (fun x hx => ⟨(hVO x hx).1, (hVO x hx).2.1⟩) ?_ (fun k hk => ⟨(htch k hk).2.1, fun o' ho' => ?_⟩) n1 hH2.symm n2 (fun x hT => ?_)
      · rcases hlo' with ⟨h1, h2⟩ | h1
        · refine .inl ⟨h1, fun x hx => ?_⟩
          have := ((hV x).1 hx).2.1
          rw [h2] at this
          exact any_beq.1 this
        · exact .inr h1
      · obtain ⟨q1, q2, q3⟩ := htch k hk
        exact (hV (k, o')).2 ⟨(canon (k, o') q1 q3).1.1 ho', q1, q3⟩
      · rw [hobj x]
        constructor
        · rintro (⟨g, _⟩ | ⟨_, g1, g2⟩)
          · exact g
          · rcases hT with h | h
            · omega
            · exact absurd h g1
        · intro g
          exact .inl ⟨g, by rw [← hH2]; exact hT⟩
end
end Go.Vm
namespace Go.Vm
set_option linter.unusedVariables false
set_option linter.unusedSimpArgs false

/-! ### A built-in function that is put off -/
theorem step_built {P : Program} {fr : Frame} {cs : List Frame} {w w' : World} {b : Builtin} {ts : Array TypeId} {ty : TypeId} {cn : Array Bool} {args : Array Value} {ds : List Deferred} {v : Value}
    (hm : fr.mode = .returning) (hd : fr.defers = { target := .builtin b ts ty cn, args := args } :: ds) (hi : (invoke (.builtin b ts ty cn) args).run P w = .ok (.value v) w') :
    step P (lone fr cs w) = .next (lone { fr with defers := ds } cs w') := by
  refine step_lone_go ?_
  simp [stepG, unwind, callDeferred, hm, hd, hi]

/-- What a body leaves that puts off at most one built-in function. -/
def postC (P : Program) (fn : Func) (R : Ending → World → Prop) : Exit → Act → World → Prop
  | .normal, a, w | .ret, a, w => (a.defers = [] ∧ ∃ v, (results fn a.tmps).run P w = .ok v w ∧ R (.returned v) w) ∨
      (∃ b ts ty cn args v0 w1, a.defers = [{ target := .builtin b ts ty cn, args := args }] ∧ (invoke (.builtin b ts ty cn) args).run P w = .ok (.value v0) w1 ∧
        ∃ v, (results fn a.tmps).run P w1 = .ok v w1 ∧ R (.returned v) w1)
  | _, _, _ => False

theorem calls_of_wp_clear {P : Program} {f : FuncId} {fn : Func} {c : Code} {args : Array Value} {w : World} {R : Ending → World → Prop}
    (hf : P.funcs[f]? = some fn) (hb : fn.body = some c)
    (h : c.wp P (postC P fn R) { tmps := args ++ Array.replicate (fn.ntmps - args.size) undef, defers := [] } w) : Calls P f args w R := by
  intro cs
  let b : Frame := { (default : Frame) with fn := f, kind := .normal }
  have henter : Frame.enter P f args .normal =
      b.at { tmps := args ++ Array.replicate (fn.ntmps - args.size) undef, defers := [] } [.code c] := by
    simp [Frame.enter, Frame.at, hf, hb, b]
  obtain ⟨e, a', w', hq, harr⟩ := h b [] cs
  rw [← henter] at harr
  have main : ∀ todo, Steps P (lone (Frame.enter P f args .normal) cs w) (lone { b.at a' todo with mode := .returning } cs w') → postC P fn R .normal a' w' →
      ∃ e w' fr, R e w' ∧ Comes P (lone (Frame.enter P f args .normal) cs w) (lone fr cs w') e ∧ fr.fn = f ∧ fr.leaving P w' e := by
    intro todo hs hq
    rcases hq with ⟨hd, v, hr, hR⟩ | ⟨bb, ts, ty, cn, ar, v0, w1, hd, hi, v, hr, hR⟩
    · exact ⟨.returned v, w', _, hR, hs, rfl, rfl, hd, rfl, fn, hf, hr⟩
    · have h1 := step_built (fr := { b.at a' todo with mode := .returning }) (cs := cs) rfl hd hi
      exact ⟨.returned v, w1, _, hR, Steps.trans hs (.one h1), rfl, rfl, rfl, rfl, fn, hf, hr⟩
  cases e with
  | normal => exact main [] (Steps.trans harr (.one step_end)) hq
  | ret =>
    obtain ⟨todo, hs⟩ := harr
    exact main todo hs hq
  | panic chain => exact hq.elim
  | exit id => exact hq.elim
  | goto l => exact hq.elim
  | outgrown => exact hq.elim

/-! ### clear, of elements of one cell -/
def oneZ (z : Value) : Bool := match z with | .complex .f64 _ _ | .float .f64 _ => true | _ => false

def clearE {R : Type} (P : Program) (lo : Nat) (H : AH) (t : TypeId) (v : Value) (k : AH → Option R) : Option R :=
  match P.underlying t, v with
  | some (.slice e), .slice (some ad) n _ =>
    bif Nat.beq n 0 then k H
    else (calm P (zeroValue e)).bind fun z =>
      match look ad.block H.objs with
      | some (.cells cs sz) =>
        bif oneZ z && Nat.ble lo ad.block && ad.spot.isNone && Nat.ble (ad.off + n) cs.length then k (H.put ad.block (.cells (splice cs ad.off (List.replicate n z)) sz)) else none
      | _ => none
  | _, _ => none

theorem rep_rel {ρ : Map} {z : Value} (hz : flat z = true) : ∀ n, VRels ρ (List.replicate n z) (List.replicate n z)
  | 0 => .nil
  | n + 1 => by rw [List.replicate_succ]; exact .cons (VRel.ofFlat ρ hz) (rep_rel hz n)

theorem clearE_sound {R : Type} {P : Program} {lo : Nat} {H : AH} {t : TypeId} {v : Value} {k : AH → Option R} {r : R} (h : clearE P lo H t v k = some r) :
    ∃ H', k H' = some r ∧ ∀ {ρ : Map} {w : World} {v' : Value} {ty : TypeId}, Inv ρ H w → VRel ρ v v' →
      ∃ w' u, (Builtin.clear_ #[t] ty #[v']).run P w = .ok u w' ∧ Next lo ρ H w ρ H' w' := by
  unfold clearE at h
  split at h
  case h_2 => cases h
  rename_i e ad n c hu
  cases hn : Nat.beq n 0 with
  | true =>
    rw [hn] at h
    have hn' := Nat.eq_of_beq_eq_true hn
    subst hn'
    refine ⟨H, h, fun {ρ w v' ty} hi hv => ?_⟩
    cases hv with
    | slice hs => exact ⟨w, .tuple #[], by simp [Builtin.clear_, run_underlying hu], Next.refl hi⟩
  | false =>
    rw [hn] at h
    simp only [cond_false] at h
    have hn' : n ≠ 0 := fun q => by subst q; cases hn
    obtain ⟨z, hz, h'⟩ := bind_some' h
    clear h
    split at h'
    case h_2 => cases h'
    rename_i cs sz hl
    cases hb : (oneZ z && Nat.ble lo ad.block && ad.spot.isNone && Nat.ble (ad.off + n) cs.length) with
    | false => rw [hb] at h'; cases h'
    | true =>
      rw [hb] at h'
      simp only [Bool.and_eq_true, Nat.ble_eq] at hb
      obtain ⟨⟨⟨b1, b2⟩, b3⟩, b4⟩ := hb
      have hzz : z.cells = #[z] ∧ z.oneCell' = true ∧ flat z = true := by
        unfold oneZ at b1
        split at b1
        · exact ⟨rfl, rfl, rfl⟩
        · exact ⟨rfl, rfl, rfl⟩
        · cases b1
      refine ⟨_, h', fun {ρ w v' ty} hinv hv => ?_⟩
      cases hv with
      | @slice ks os _ _ ss hss =>
        simp only at b2 b4
        have hm0 := look_mem hl
        obtain ⟨s2, e1, e2⟩ := hinv.rel.obj ks _ hm0
        rw [hss] at e1
        cases e1
        obtain ⟨arr, tyo, cs', ab, ar, ac, aext, ax0⟩ := e2
        have arl := ar.length
        have hcell : ∀ j, j < cs.length → ∃ u, arr[ss.d + j]? = some u := fun j hj => by
          have hlt : j < cs'.length := by omega
          exact ⟨cs'[j], ac j _ (by simp [hlt])⟩
        have hrun := Lib.run_clear_slice (P := P) w t e ty z hu (fun w => calm_run hz w) hzz.1 hzz.2.1 ss.b (ss.d + os) n (c + ss.x) (by omega)
          (fun j hj => by
            obtain ⟨u, hu'⟩ := hcell (os + j) (by omega)
            rw [show ss.d + os + j = ss.d + (os + j) by omega]
            simp [World.cell?, ab, hu']) (fun j hj => by simp [World.frozen?, ab])
        have g1 : VRels ρ (List.replicate n z) (List.replicate n z) := rep_rel hzz.2.2 n
        obtain ⟨w1, w2, w3, w4, w5, w6⟩ := setCells_heap ss.b (List.replicate n z) (ss.d + os) w arr tyo (0, 0) ab
        refine ⟨_, _, hrun, Next.write hinv hm0 b2 hss _ w3 w4 w5 w6 w2 ⟨_, tyo, splice cs' os (List.replicate n z), w1, ar.splice g1 os, fun j v hv => ?_, ?_, ax0⟩⟩
        · rw [splice_get (by simp; omega)] at hv
          rw [foldl_set_get]
          split at hv
          · rename_i hin
            have : ss.d + j < arr.size := by
              obtain ⟨u', hu'⟩ := hcell j (by simp at hin; omega)
              exact (Array.getElem?_eq_some_iff.1 hu').1
            rw [if_pos (by simp at hin ⊢; omega), show ss.d + j - (ss.d + os) = j - os by omega]
            exact hv
          · rename_i hout
            rw [if_neg (by omega)]
            exact ac j v hv
        · rw [splice_length (by simp; omega), foldl_set_size]
          exact aext
end Go.Vm
namespace Go.Vm
set_option linter.unusedVariables false
set_option linter.unusedSimpArgs false

/-! ### Results -/
def resE (P : Program) (e : Env) (H : AH) : List ResultVar → Option (List Value)
  | [] => some []
  | .tmp t :: r => (getE t e).bind fun v => (resE P e H r).bind fun vs => some (v :: vs)
  | .cell t ty :: r => (getE t e).bind fun p =>
    match p with
    | .pointer (some ad) =>
      match look ad.block H.objs with
      | some (.cells cs _) => loadE P ty cs ad.off fun v => (resE P e H r).bind fun vs => some (v :: vs)
      | _ => none
    | _ => none

def oneOf : List Value → Value
  | [v] => v
  | vs => .tuple ⟨vs⟩

def resSem (tmps : Array Value) : ResultVar → Sem Value
  | .tmp t => pure (tmps.getD t undef)
  | .cell a t => do loadVar t (← asAddr (tmps.getD a undef))

theorem resE_sound {P : Program} {e : Env} {H : AH} : ∀ {rs : List ResultVar} {vs : List Value}, resE P e H rs = some vs → ∀ {ρ : Map} {w : World} {tmps : Array Value}, Inv ρ H w → EnvRel ρ e tmps →
    ∃ vs', (rs.mapM (resSem tmps)).run P w = .ok vs' w ∧ VRels ρ vs vs'
  | [], vs, h, ρ, w, tmps, hi, he => by simp [resE] at h; subst h; exact ⟨[], rfl, .nil⟩
  | .tmp t :: r, vs, h, ρ, w, tmps, hi, he => by
    obtain ⟨v, h1, h⟩ := bind_some' h
    obtain ⟨us, h2, h⟩ := bind_some' h
    cases h
    obtain ⟨v', g1, g2⟩ := he t v h1
    obtain ⟨us', g3, g4⟩ := resE_sound h2 hi he
    exact ⟨v' :: us', by simp [List.mapM_cons, resSem, g1, g3], .cons g2 g4⟩
  | .cell t ty :: r, vs, h, ρ, w, tmps, hi, he => by
    obtain ⟨p, h1, h⟩ := bind_some' h
    split at h
    · rename_i ad
      split at h
      · rename_i cs sz hl
        obtain ⟨v, k1, k2⟩ := loadE_sound h
        obtain ⟨us, h2, k1⟩ := bind_some' k1
        cases k1
        obtain ⟨p', g1, g2⟩ := he t _ h1
        cases g2 with
        | @ptr kb off sp hk =>
          obtain ⟨s, e1, e2⟩ := hi.rel.obj _ _ (look_mem hl)
          rw [hk] at e1
          cases e1
          obtain ⟨v', g2, g3⟩ := k2 e2
          obtain ⟨us', g4, g5⟩ := resE_sound h2 hi he
          exact ⟨v' :: us', by simp [List.mapM_cons, resSem, g1, asAddr, g2, g4], .cons g3 g5⟩
      · cases h
    · cases h

theorem results_run {P : Program} {e : Env} {H : AH} {fn : Func} {vs : List Value} (h : resE P e H fn.results.toList = some vs) {ρ : Map} {w : World} {tmps : Array Value} (hi : Inv ρ H w) (he : EnvRel ρ e tmps) :
    ∃ v', (results fn tmps).run P w = .ok v' w ∧ VRel ρ (oneOf vs) v' := by
  obtain ⟨vs', h1, h2⟩ := resE_sound h hi he
  have hr : (fn.results.mapM (resSem tmps) : Sem (Array Value)).run P w = .ok ⟨vs'⟩ w := by
    rw [Array.mapM_eq_mapM_toList]
    simp [h1]
  have e0 : results fn tmps = (fn.results.mapM (resSem tmps) >>= fun vs => pure (if h : vs.size = 1 then vs[0] else .tuple vs)) := by
    unfold results
    have : (fun x : ResultVar => (match x with | .tmp t => pure (tmps.getD t undef) | .cell a t => do loadVar t (← asAddr (tmps.getD a undef)) : Sem Value)) = resSem tmps := by
      funext x; cases x <;> rfl
    rw [← this]
    rfl
  refine ⟨oneOf vs', ?_, ?_⟩
  · rw [e0, Sem.run_bind, hr]
    simp only [Result.andThen_ok, Sem.run_pure]
    congr 1
    match vs' with
    | [] => rfl
    | [v] => rfl
    | v :: u :: r => simp [oneOf]
  · cases h2 with
    | nil => exact .tuple .nil
    | cons a1 b1 =>
      cases b1 with
      | nil => exact a1
      | cons a2 b2 => exact .tuple (.cons a1 (.cons a2 b2))

def enumE (i : Nat) : List Value → Env
  | [] => []
  | v :: r => (i, v) :: enumE (i + 1) r

theorem enumE_get {t : Nat} {v : Value} : ∀ {l : List Value} {i : Nat}, getE t (enumE i l) = some v → i ≤ t ∧ l[t - i]? = some v
  | [], i, h => by simp [enumE, getE] at h
  | u :: r, i, h => by
    unfold enumE getE at h
    cases hb : Nat.beq i t with
    | true =>
      have := Nat.eq_of_beq_eq_true hb
      subst this
      rw [hb] at h
      cases h
      simp
    | false =>
      rw [hb] at h
      obtain ⟨h1, h2⟩ := enumE_get (l := r) h
      refine ⟨by omega, ?_⟩
      rw [show t - i = (t - (i + 1)) + 1 by omega]
      simpa using h2

theorem enum_rel {ρ : Map} {args args' : List Value} (h : VRels ρ args args') (n : Nat) : EnvRel ρ (enumE 0 args) (⟨args'⟩ ++ Array.replicate n undef) := fun t v hv => by
  obtain ⟨_, h1⟩ := enumE_get hv
  obtain ⟨v', h2, h3⟩ := h.get _ h1
  refine ⟨v', ?_, h3⟩
  simp only [Nat.sub_zero] at h2
  have hlt : t < args'.length := (List.getElem?_eq_some_iff.1 h2).1
  rw [Array.getElem?_append_left (by simpa using hlt)]
  simpa using h2

/-- What is shown of a code. -/
def CodeOk (P : Program) (lo sz : Nat) (e : Env) (H : AH) (ex : Ex) (e' : Env) (H' : AH) (W : (Exit → Act → World → Prop) → Act → World → Prop) : Prop :=
  ∀ {ρ : Map} {w : World} {a : Act}, Inv ρ H w → lo ≤ H.next → EnvRel ρ e a.tmps → a.tmps.size = sz →
    ∀ Q : Exit → Act → World → Prop, (∀ ρ' a' w', Next lo ρ H w ρ' H' w' → EnvRel ρ' e' a'.tmps → a'.tmps.size = sz → a'.defers = a.defers → Q ex.to a' w') → W Q a w

/-! ### A body that puts off the built-in clear -/
def cutDefer : List Oper → Option (List Oper × Operand × TypeId)
  | [] => none
  | o :: r =>
    match r with
    | [] =>
      match o.op, o.guard, o.dst with
      | .defer { callee := .builtin .clear, args := ⟨[x]⟩, argTypes := ⟨[t]⟩ }, none, none => some ([], x, t)
      | _, _, _ => none
    | _ => (cutDefer r).map fun p => (o :: p.1, p.2)

theorem cutDefer_some {x : Operand} {t : TypeId} : ∀ {l pre : List Oper}, cutDefer l = some (pre, x, t) →
    ∃ o, l = pre ++ [o] ∧ o.guard = none ∧ o.dst = none ∧ o.op = .defer { callee := .builtin .clear, args := #[x], argTypes := #[t] }
  | [], _, h => by cases h
  | [o], pre, h => by
    unfold cutDefer at h
    simp only at h
    split at h
    · rename_i x' t' h1 h2 h3
      cases h
      exact ⟨o, rfl, h2, h3, h1⟩
    · cases h
  | o :: q :: r, pre, h => by
    unfold cutDefer at h
    simp only [Option.map_eq_some_iff] at h
    obtain ⟨⟨pre', p⟩, h1, h2⟩ := h
    cases h2
    obtain ⟨o', e1, e2⟩ := cutDefer_some h1
    exact ⟨o', by rw [e1]; rfl, e2⟩

def deferIn (c : Code) : Option (Array Oper × List Oper × Operand × TypeId) :=
  match c with
  | .region _ ops false => (cutDefer ops.toList).map fun p => (ops, p)
  | _ => none

def noCal {R : Type} : Cal R := fun _ _ _ _ _ _ _ => none
theorem noCal_ok {P : Program} {R : Type} : CalOk P (noCal (R := R)) := fun lo f fn c args H k r h => by cases h

def endE {R : Type} (P : Program) (lo : Nat) (rs : List ResultVar) (k : Value → AH → Option R) (d : Option (TypeId × Value)) (e : Env) (H : AH) : Option R :=
  match d with
  | none => (resE P e H rs).bind fun vs => k (oneOf vs) H
  | some (t, v) => clearE P lo H t v fun H' => (resE P e H' rs).bind fun vs => k (oneOf vs) H'

def spine {R : Type} (C : Cx) (lo sz : Nat) (ev : Code → Env → AH → (Ex → Env → AH → Option R) → Option R) (fin : Option (TypeId × Value) → Env → AH → Option R) : Code → Env → AH → Option R
  | .seq a b, e, H =>
    match deferIn a with
    | some (ops, pre, x, t) => evOps C noCal lo sz ops pre e H fun e' H' => (opd e' x).bind fun v => ev b e' H' fun ex e'' H'' =>
        match ex with
        | .exit _ => none
        | _ => fin (some (t, v)) e'' H''
    | none => ev a e H fun ex e' H' =>
        match ex with
        | .normal => spine C lo sz ev fin b e' H'
        | .ret => fin none e' H'
        | .exit _ => none
  | c, e, H => ev c e H fun ex e' H' =>
      match ex with
      | .exit _ => none
      | _ => fin none e' H'

def DefOk (ρ : Map) (d : Option (TypeId × Value)) (a : Act) : Prop :=
  match d with
  | none => a.defers = []
  | some (t, v) => ∃ v' ty cn, a.defers = [{ target := .builtin .clear #[t] ty cn, args := #[v'] }] ∧ VRel ρ v v'

theorem evOps_tail {R : Type} {C : Cx} {cal : Cal R} (hC : C.Ok) (hcal : CalOk C.P cal) {lo sz : Nat} {ops : Array Oper} : ∀ {rest : List Oper} {e : Env} {H : AH} {k : Env → AH → Option R} {r : R},
    evOps C cal lo sz ops rest e H k = some r → ∃ e' H', k e' H' = some r ∧ ∀ {ρ : Map} {w : World} {a : Act}, Inv ρ H w → lo ≤ H.next → EnvRel ρ e a.tmps → a.tmps.size = sz →
      ∀ (tail : List Oper) (Q : Exit → Act → World → Prop), (∀ ρ' a' w', Next lo ρ H w ρ' H' w' → EnvRel ρ' e' a'.tmps → a'.tmps.size = sz → a'.defers = a.defers → wpList C.P ops Q tail a' w') → wpList C.P ops Q (rest ++ tail) a w
  | [], e, H, k, r, h => ⟨e, H, h, fun {ρ w a} hi hlo he hs tail Q hQ => hQ ρ a w (Next.refl hi) he hs rfl⟩
  | o :: rest, e, H, k, r, h => by
    unfold evOps at h
    cases hd : dstOk sz o with
    | false => rw [hd] at h; cases h
    | true =>
      rw [hd] at h
      simp only [cond_true] at h
      obtain ⟨b, h1, h⟩ := bind_some' h
      cases b with
      | true =>
        simp only [cond_true] at h
        obtain ⟨v, H1, g1, g2⟩ := evAny_sound hC hcal h
        obtain ⟨e', H', k1, k2⟩ := evOps_tail hC hcal (rest := rest) g1
        refine ⟨e', H', k1, fun {ρ w a} hi hlo he hs tail Q hQ => ?_⟩
        rw [List.cons_append]
        unfold wpList
        rw [if_pos (wantE_sound h1 he)]
        refine .inl (g2 hi hlo he _ Q fun ρ2 w2 v2 m1 m2 => ?_)
        exact k2 m1.inv (Nat.le_trans hlo m1.nx) (put_rel hd hs (he.mono (m1.ext hi)) m2) (by rw [put_size]; exact hs) tail Q fun ρ' a' w' q1 q2 q3 q4 =>
          hQ ρ' a' w' (m1.trans q1) q2 q3 (by rw [q4, put_defers])
      | false =>
        simp only [cond_false] at h
        obtain ⟨e', H', k1, k2⟩ := evOps_tail hC hcal (rest := rest) h
        refine ⟨e', H', k1, fun {ρ w a} hi hlo he hs tail Q hQ => ?_⟩
        rw [List.cons_append]
        unfold wpList
        rw [if_neg (by rw [wantE_sound h1 he]; exact Bool.false_ne_true)]
        exact k2 hi hlo (put_rel hd hs he (.tuple .nil)) (by rw [put_size]; exact hs) tail Q fun ρ' a' w' q1 q2 q3 q4 => hQ ρ' a' w' q1 q2 q3 (by rw [q4, put_defers])

theorem spine_sound {R : Type} {C : Cx} (hC : C.Ok) {lo sz : Nat} {ev : Code → Env → AH → (Ex → Env → AH → Option R) → Option R} {fin : Option (TypeId × Value) → Env → AH → Option R}
    (hev : ∀ (c : Code) (e : Env) (H : AH) (k : Ex → Env → AH → Option R) (r : R), ev c e H k = some r → ∃ ex e' H', k ex e' H' = some r ∧ CodeOk C.P lo sz e H ex e' H' (fun Q a w => c.wp C.P Q a w)) :
    ∀ (c : Code) (e : Env) (H : AH) (r : R), spine C lo sz ev fin c e H = some r → ∃ d e' H', fin d e' H' = some r ∧
      ∀ {ρ : Map} {w : World} {a : Act}, Inv ρ H w → lo ≤ H.next → EnvRel ρ e a.tmps → a.tmps.size = sz → a.defers = [] →
        ∀ Q : Exit → Act → World → Prop, (∀ ρ' a' w' (ex : Exit), (ex = .normal ∨ ex = .ret) → Next lo ρ H w ρ' H' w' → EnvRel ρ' e' a'.tmps → a'.tmps.size = sz → DefOk ρ' d a' → Q ex a' w') → c.wp C.P Q a w := by
  have plain : ∀ (c : Code) (e : Env) (H : AH) (r : R), (ev c e H fun ex e' H' => match ex with | .exit _ => none | _ => fin none e' H') = some r → ∃ d e' H', fin d e' H' = some r ∧
      ∀ {ρ : Map} {w : World} {a : Act}, Inv ρ H w → lo ≤ H.next → EnvRel ρ e a.tmps → a.tmps.size = sz → a.defers = [] →
        ∀ Q : Exit → Act → World → Prop, (∀ ρ' a' w' (ex : Exit), (ex = .normal ∨ ex = .ret) → Next lo ρ H w ρ' H' w' → EnvRel ρ' e' a'.tmps → a'.tmps.size = sz → DefOk ρ' d a' → Q ex a' w') → c.wp C.P Q a w := by
    intro c e H r h
    obtain ⟨ex, e', H', h1, h2⟩ := hev _ _ _ _ _ h
    cases ex with
    | exit _ => cases h1
    | normal => exact ⟨none, e', H', h1, fun {ρ w a} hi hlo he hs hd Q hQ => h2 hi hlo he hs Q fun ρ' a' w' m1 m2 m3 m4 => hQ ρ' a' w' .normal (.inl rfl) m1 m2 m3 (m4.trans hd)⟩
    | ret => exact ⟨none, e', H', h1, fun {ρ w a} hi hlo he hs hd Q hQ => h2 hi hlo he hs Q fun ρ' a' w' m1 m2 m3 m4 => hQ ρ' a' w' .ret (.inr rfl) m1 m2 m3 (m4.trans hd)⟩
  intro c
  induction c with
  | seq x y ihx ihy =>
    intro e H r h
    unfold spine at h
    split at h
    · rename_i ops pre ox t hdf
      unfold deferIn at hdf
      split at hdf
      case h_2 => cases hdf
      rename_i id ops'
      simp only [Option.map_eq_some_iff] at hdf
      obtain ⟨⟨pre', p⟩, hc, he2⟩ := hdf
      cases he2
      obtain ⟨o, hops, hg, hdst, hop⟩ := cutDefer_some hc
      obtain ⟨e1, H1, g1, g2⟩ := evOps_tail hC noCal_ok h
      obtain ⟨v, hv, g1⟩ := bind_some' g1
      obtain ⟨ex, e', H', k1, k2⟩ := hev _ _ _ _ _ g1
      have fin1 : fin (some (t, v)) e' H' = some r ∧ (ex.to = .normal ∨ ex.to = .ret) := by
        cases ex with
        | exit _ => cases k1
        | normal => exact ⟨k1, .inl rfl⟩
        | ret => exact ⟨k1, .inr rfl⟩
      refine ⟨some (t, v), e', H', fin1.1, fun {ρ w a} hi hlo he hs hd Q hQ => wp_seq (wp_region_list ?_)⟩
      rw [hops]
      refine g2 hi hlo he hs [o] _ fun ρ1 a1 w1 m1 m2 m3 m4 => ?_
      have hw : Region.wanted o (yielded ops a1.tmps) = true := by unfold Region.wanted; rw [hg]
      unfold wpList
      rw [if_pos hw]
      refine .inl ?_
      have hrun : ∃ cn, (execOp a1.eval o).run C.P w1 = .ok (.defer { target := .builtin .clear #[t] o.type cn, args := #[a1.eval ox] }) w1 := ⟨#[ox].map fun | .const _ => true | _ => false, by simp only [execOp, hop, resolve, Sem.run_bind, Sem.run_pure, Result.andThen_ok]; rw [show (#[ox] : Array Operand).map a1.eval = #[a1.eval ox] by simp]; rfl⟩
      obtain ⟨cn, hrun⟩ := hrun
      unfold Oper.wp
      rw [hrun, Oper.upon_defer, hdst]
      refine k2 (a := ({ a1 with defers := { target := .builtin .clear #[t] o.type cn, args := #[a1.eval ox] } :: a1.defers } : Act).put none undef) m1.inv (Nat.le_trans hlo m1.nx) m2 m3 Q fun ρ' a' w' q1 q2 q3 q4 => ?_
      refine hQ ρ' a' w' _ fin1.2 (m1.trans q1) q2 q3 ⟨a1.eval ox, o.type, cn, ?_, (opd_rel m2 hv).mono (q1.ext m1.inv)⟩
      rw [q4]
      show _ :: a1.defers = _
      rw [m4, hd]
    · obtain ⟨ex, e1, H1, h1, h2⟩ := hev _ _ _ _ _ h
      cases ex with
      | exit _ => cases h1
      | ret => exact ⟨none, e1, H1, h1, fun {ρ w a} hi hlo he hs hd Q hQ => wp_seq (h2 hi hlo he hs _ fun ρ' a' w' m1 m2 m3 m4 => hQ ρ' a' w' .ret (.inr rfl) m1 m2 m3 (m4.trans hd))⟩
      | normal =>
        obtain ⟨d, e', H', g1, g2⟩ := ihy _ _ _ h1
        refine ⟨d, e', H', g1, fun {ρ w a} hi hlo he hs hd Q hQ => wp_seq (h2 hi hlo he hs _ fun ρ1 a1 w1 m1 m2 m3 m4 => ?_)⟩
        exact g2 m1.inv (Nat.le_trans hlo m1.nx) m2 m3 (m4.trans hd) Q fun ρ' a' w' ex' hex q1 q2 q3 q4 => hQ ρ' a' w' ex' hex (m1.trans q1) q2 q3 q4
  | _ => exact plain _

/-! ### The evaluator -/
def evCode {R : Type} (C : Cx) : Nat → Nat → Nat → Code → Env → AH → (Ex → Env → AH → Option R) → Option R
  | 0, _, _, _, _, _, _ => none
  | n + 1, lo, sz, c, e, H, k =>
    match c with
    | .skip => k .normal e H
    | .region _ ops draw =>
      let cal : Cal R := fun lo f fn c args H k => bif Nat.ble args.length fn.ntmps then
        match C.defs f with
        | true => spine C lo fn.ntmps (evCode C n lo fn.ntmps) (endE C.P lo fn.results.toList k) c (enumE 0 args) H
        | false => evCode C n lo fn.ntmps c (enumE 0 args) H fun ex e' H' =>
          match ex with
          | .exit _ => none
          | _ => (resE C.P e' H' fn.results.toList).bind fun vs => k (oneOf vs) H'
        else none
      bif draw then bif drawOk ops then evDraw C cal lo sz ops (masks ops) H.next 0 [] [] ops.toList e H (fun e' H' => k .normal e' H') else none
      else evOps C cal lo sz ops ops.toList e H fun e' H' => k .normal e' H'
    | .seq a b => evCode C n lo sz a e H fun ex e' H' =>
        match ex with
        | .normal => evCode C n lo sz b e' H' k
        | ex => k ex e' H'
    | .cond x a b => (opd e x).bind fun v =>
        match v with
        | .bool t => bif t then evCode C n lo sz a e H k else evCode C n lo sz b e H k
        | _ => none
    | .block id a => evCode C n lo sz a e H fun ex e' H' =>
        match ex with
        | .exit j => bif Nat.beq j id then k .normal e' H' else k (.exit j) e' H'
        | ex => k ex e' H'
    | .loop a => evCode C n lo sz a (dedup 0 e) H fun ex e' H' =>
        match ex with
        | .normal => evCode C n lo sz (.loop a) e' H' k
        | ex => k ex e' H'
    | .exit id => k (.exit id) e H
    | .ret => k .ret e H
    | _ => none

def calAt {R : Type} (C : Cx) (n : Nat) : Cal R := fun lo f fn c args H k => bif Nat.ble args.length fn.ntmps then
  match C.defs f with
  | true => spine C lo fn.ntmps (evCode C n lo fn.ntmps) (endE C.P lo fn.results.toList k) c (enumE 0 args) H
  | false => evCode C n lo fn.ntmps c (enumE 0 args) H fun ex e' H' =>
    match ex with
    | .exit _ => none
    | _ => (resE C.P e' H' fn.results.toList).bind fun vs => k (oneOf vs) H'
  else none

theorem cal_sound {R : Type} {C : Cx} (hC : C.Ok) {n : Nat}
    (ih : ∀ (lo sz : Nat) (c : Code) (e : Env) (H : AH) (k : Ex → Env → AH → Option R) (r : R), evCode C n lo sz c e H k = some r →
      ∃ ex e' H', k ex e' H' = some r ∧ CodeOk C.P lo sz e H ex e' H' (fun Q a w => c.wp C.P Q a w)) : CalOk C.P (calAt (R := R) C n) := by
  intro lo f fn c args H k r h hf hb
  unfold calAt at h
  cases hl : Nat.ble args.length fn.ntmps with
  | false => rw [hl] at h; cases h
  | true =>
    rw [hl] at h
    simp only [cond_true] at h
    cases hdf : C.defs f with
    | true =>
      rw [hdf] at h
      obtain ⟨d, e', H', h1, h2⟩ := spine_sound hC (fun c e H k r => ih lo fn.ntmps c e H k r) _ _ _ _ h
      cases d with
      | none =>
        obtain ⟨vs, g1, g2⟩ := bind_some' h1
        refine ⟨oneOf vs, H', g2, fun ρ w args' hi hlo ha => calls_of_wp_clear hf hb ?_⟩
        have hlen := ha.length
        simp only [Nat.ble_eq] at hl
        refine h2 hi hlo (enum_rel ha _) (by simp; omega) rfl _ fun ρ' a' w' ex hex n1 n2 n3 n4 => ?_
        obtain ⟨v', r1, r2⟩ := results_run g1 n1.inv n2
        have post : postC C.P fn (fun e w' => ∃ ρ' v', e = .returned v' ∧ VRel ρ' (oneOf vs) v' ∧ Next lo ρ H w ρ' H' w') .normal a' w' := .inl ⟨n4, v', r1, ρ', v', rfl, r2, n1⟩
        rcases hex with rfl | rfl
        · exact post
        · exact post
      | some d =>
        obtain ⟨t, v⟩ := d
        unfold endE at h1
        obtain ⟨H2, k1, k2⟩ := clearE_sound h1
        obtain ⟨vs, g1, g2⟩ := bind_some' k1
        refine ⟨oneOf vs, H2, g2, fun ρ w args' hi hlo ha => calls_of_wp_clear hf hb ?_⟩
        have hlen := ha.length
        simp only [Nat.ble_eq] at hl
        refine h2 hi hlo (enum_rel ha _) (by simp; omega) rfl _ fun ρ' a' w' ex hex n1 n2 n3 n4 => ?_
        obtain ⟨v', ty, cn, d1, d2⟩ := n4
        obtain ⟨w2, u, c1, c2⟩ := k2 (ty := ty) n1.inv d2
        obtain ⟨v2, r1, r2⟩ := results_run g1 c2.inv n2
        have hinv : (invoke (.builtin .clear #[t] ty cn) #[v']).run C.P w' = .ok (.value u) w2 := by
          show (builtin .clear #[t] ty cn #[v']).run C.P w' = _
          show (do pure (Go.Next.value (← Builtin.clear_ #[t] ty #[v'])) : Sem Go.Next).run C.P w' = _
          rw [Sem.run_bind, c1]
          rfl
        have post : postC C.P fn (fun e w' => ∃ ρ' v', e = .returned v' ∧ VRel ρ' (oneOf vs) v' ∧ Next lo ρ H w ρ' H2 w') .normal a' w' := .inr ⟨_, _, _, _, _, u, w2, d1, hinv, v2, r1, ρ', v2, rfl, r2, n1.trans c2⟩
        rcases hex with rfl | rfl
        · exact post
        · exact post
    | false =>
    rw [hdf] at h
    simp only at h
    obtain ⟨ex, e', H', h1, h2⟩ := ih _ _ _ _ _ _ _ h
    have hex : ∃ vs, resE C.P e' H' fn.results.toList = some vs ∧ k (oneOf vs) H' = some r ∧ (ex = .normal ∨ ex = .ret) := by
      cases ex with
      | exit _ => cases h1
      | normal => obtain ⟨vs, g1, g2⟩ := bind_some' h1; exact ⟨vs, g1, g2, .inl rfl⟩
      | ret => obtain ⟨vs, g1, g2⟩ := bind_some' h1; exact ⟨vs, g1, g2, .inr rfl⟩
    obtain ⟨vs, g1, g2, g3⟩ := hex
    refine ⟨oneOf vs, H', g2, fun ρ w args' hi hlo ha => calls_of_wp hf hb ?_⟩
    have hlen := ha.length
    simp only [Nat.ble_eq] at hl
    refine h2 hi hlo (enum_rel ha _) (by simp; omega) _ fun ρ' a' w' n1 n2 n3 n4 => ?_
    obtain ⟨v', r1, r2⟩ := results_run g1 n1.inv n2
    have post : a'.defers = [] ∧ ∃ v, (results fn a'.tmps).run C.P w' = .ok v w' ∧ ∃ ρ' v', Ending.returned v = .returned v' ∧ VRel ρ' (oneOf vs) v' ∧ Next lo ρ H w ρ' H' w' :=
      ⟨n4, v', r1, ρ', v', rfl, r2, n1⟩
    rcases g3 with rfl | rfl
    · exact post
    · exact post

theorem wp_exits {P : Program} {Q : Exit → Act → World → Prop} {next : Act → World → Prop} {ex : Ex} {a : Act} {w : World} (h : ex ≠ .normal) (hq : Q ex.to a w) : Exit.then next Q ex.to a w := by
  cases ex with
  | normal => exact absurd rfl h
  | exit id => exact hq
  | ret => exact hq

theorem evCode_sound {R : Type} {C : Cx} (hC : C.Ok) (hmix : C.P.follows .mixedOrders = true) : ∀ (n : Nat),
    (∀ (lo sz : Nat) (c : Code) (e : Env) (H : AH) (k : Ex → Env → AH → Option R) (r : R), evCode C n lo sz c e H k = some r →
      ∃ ex e' H', k ex e' H' = some r ∧ CodeOk C.P lo sz e H ex e' H' (fun Q a w => c.wp C.P Q a w)) ∧
    (∀ (lo sz : Nat) (c : Code) (e : Env) (H : AH) (k : Ex → Env → AH → Option R) (r : R), evCode C n lo sz (.loop c) e H k = some r →
      ∃ ex e' H', k ex e' H' = some r ∧ CodeOk C.P lo sz e H ex e' H' (fun Q a w => Code.rounds C.P c Q n a w))
  | 0 => ⟨fun lo sz c e H k r h => by simp [evCode] at h, fun lo sz c e H k r h => by simp [evCode] at h⟩
  | n + 1 => by
    obtain ⟨ih1, ih2⟩ := evCode_sound hC hmix n
    have hcal : CalOk C.P (calAt (R := R) C n) := cal_sound hC ih1
    have loop : ∀ (lo sz : Nat) (c : Code) (e : Env) (H : AH) (k : Ex → Env → AH → Option R) (r : R), evCode C (n + 1) lo sz (.loop c) e H k = some r →
        ∃ ex e' H', k ex e' H' = some r ∧ CodeOk C.P lo sz e H ex e' H' (fun Q a w => Code.rounds C.P c Q (n + 1) a w) := by
      intro lo sz c e H k r h
      simp only [evCode] at h
      obtain ⟨ex, e1, H1, h1, h2⟩ := ih1 _ _ _ _ _ _ _ h
      cases ex with
      | normal =>
        simp only at h1
        obtain ⟨ex', e', H', g1, g2⟩ := ih2 _ _ _ _ _ _ _ h1
        refine ⟨ex', e', H', g1, fun {ρ w a} hi hlo he hs Q hQ => ?_⟩
        show Code.wp C.P c (Exit.then (Code.rounds C.P c Q n) Q) a w
        refine h2 hi hlo he.dedup hs _ fun ρ1 a1 w1 m1 m2 m3 m4 => ?_
        exact g2 m1.inv (Nat.le_trans hlo m1.nx) m2 m3 Q fun ρ' a' w' q1 q2 q3 q4 => hQ ρ' a' w' (m1.trans q1) q2 q3 (q4.trans m4)
      | exit id =>
        refine ⟨.exit id, e1, H1, h1, fun {ρ w a} hi hlo he hs Q hQ => ?_⟩
        show Code.wp C.P c (Exit.then (Code.rounds C.P c Q n) Q) a w
        exact h2 hi hlo he.dedup hs _ fun ρ1 a1 w1 m1 m2 m3 m4 => hQ ρ1 a1 w1 m1 m2 m3 m4
      | ret =>
        refine ⟨.ret, e1, H1, h1, fun {ρ w a} hi hlo he hs Q hQ => ?_⟩
        show Code.wp C.P c (Exit.then (Code.rounds C.P c Q n) Q) a w
        exact h2 hi hlo he.dedup hs _ fun ρ1 a1 w1 m1 m2 m3 m4 => hQ ρ1 a1 w1 m1 m2 m3 m4
    refine ⟨fun lo sz c e H k r h => ?_, loop⟩
    cases c with
    | skip => exact ⟨.normal, e, H, h, fun {ρ w a} hi hlo he hs Q hQ => wp_skip (hQ ρ a w (Next.refl hi) he hs rfl)⟩
    | region id ops draw =>
      cases draw with
      | true =>
        simp only [evCode, cond_true] at h
        cases hd : drawOk ops with
        | false => rw [hd] at h; cases h
        | true =>
          rw [hd] at h
          simp only [cond_true] at h
          obtain ⟨vals, heaps, envs, seen, tch, e0, _, e1, hk, ht⟩ := evDraw_trace hC hcal (hp := fun _ => H) (sp := fun _ => some []) (tp := fun _ => []) h rfl rfl (fun x hx => by simp at hx) (fun t ht => by omega)
          have e0' : heaps 0 = H := e0 0 (Nat.le_refl _)
          have htr : TraceOk C lo sz ops vals heaps envs seen tch := fun j o ho => by
            have := ht j o (by simpa using ho)
            simp only [Nat.zero_add] at this
            exact this
          have hlen : 0 + ops.toList.length = ops.size := by simp
          rw [hlen] at hk
          refine ⟨.normal, _, _, hk, fun {ρ w a} hi hlo he hs Q hQ => wp_region_any hmix ?_⟩
          subst e0'
          subst e1
          have hi' : Inv ρ (heaps 0) w.drew := (Next.draw (lo := lo) hi).inv
          have hn0 : Next lo ρ (heaps 0) w ρ (heaps 0) w.drew := Next.draw hi
          have nolist : ∀ i, i < ops.size → (Array.replicate ops.size false).getD i true = false := fun i hi => by simp [hi]
          have hnz := trace_le' htr (Nat.zero_le _) (Nat.le_refl ops.size)
          refine wpAny_draw (df := a.defers) hd htr hi' hlo (fun ρ' a' w' q1 q2 q3 q4 => hQ ρ' a' w' (hn0.trans q1) q2 q3 q4) ops.size ρ (heaps 0).objs _ a w.drew (List.range ops.size) ?_ (by simp) (fun i hi _ => by simpa using hi)
          refine
          { len := by simp
            cl := fun i o ho hl => ?_
            obj := fun x => ?_
            nx := (Next.refl hi').objs hnz (fun k hk => hi'.dom k (Nat.le_trans hnz hk)) (fun x => Iff.rfl) (fun x hx => Nat.lt_of_lt_of_le (hi'.wf x.1 x.2 hx) hnz)
            non := fun t h0 h1 k h2 h3 => hi'.dom k (Nat.le_trans (trace_le' htr (Nat.zero_le _) (by omega)) h2)
            hasL := fun x hx t hL s hs => ?_
            has0 := fun x hx hN s hs => ?_
            envA := fun i o t ho hd hl => ?_
            envB := fun t _ u hu => he t u hu
            sz := hs
            df := rfl }
          · have hlt : i < ops.size := (Array.getElem?_eq_some_iff.1 ho).1
            rw [nolist i hlt] at hl; cases hl
          · constructor
            · intro hx
              exact .inr ⟨fun t h1 h2 => (by rw [nolist t h1] at h2; cases h2), hx⟩
            · rintro (⟨t, ⟨h1, h2, _⟩, _⟩ | ⟨_, hx⟩)
              · rw [nolist t h1] at h2; cases h2
              · exact hx
          · have := hL.2.1
            rw [nolist t hL.1] at this; cases this
          · obtain ⟨s', e1, e2⟩ := hi'.rel.obj x.1 x.2 hx
            rw [hs] at e1
            cases e1
            exact e2.mono fun k r hk => cut_some.2 ⟨hi'.lt hk, hk⟩
          · have hlt : i < ops.size := (Array.getElem?_eq_some_iff.1 ho).1
            rw [nolist i hlt] at hl; cases hl
      | false =>
        simp only [evCode, cond_false] at h
        obtain ⟨e', H', g1, g2⟩ := evOps_sound hC hcal h
        exact ⟨.normal, e', H', g1, fun {ρ w a} hi hlo he hs Q hQ => wp_region_list (g2 hi hlo he hs Q hQ)⟩
    | seq x y =>
      simp only [evCode] at h
      obtain ⟨ex, e1, H1, h1, h2⟩ := ih1 _ _ _ _ _ _ _ h
      cases ex with
      | normal =>
        simp only at h1
        obtain ⟨ex', e', H', g1, g2⟩ := ih1 _ _ _ _ _ _ _ h1
        refine ⟨ex', e', H', g1, fun {ρ w a} hi hlo he hs Q hQ => wp_seq ?_⟩
        refine h2 hi hlo he hs _ fun ρ1 a1 w1 m1 m2 m3 m4 => ?_
        exact g2 m1.inv (Nat.le_trans hlo m1.nx) m2 m3 Q fun ρ' a' w' q1 q2 q3 q4 => hQ ρ' a' w' (m1.trans q1) q2 q3 (q4.trans m4)
      | exit id =>
        exact ⟨.exit id, e1, H1, h1, fun {ρ w a} hi hlo he hs Q hQ => wp_seq (h2 hi hlo he hs _ fun ρ1 a1 w1 m1 m2 m3 m4 => hQ ρ1 a1 w1 m1 m2 m3 m4)⟩
      | ret =>
        exact ⟨.ret, e1, H1, h1, fun {ρ w a} hi hlo he hs Q hQ => wp_seq (h2 hi hlo he hs _ fun ρ1 a1 w1 m1 m2 m3 m4 => hQ ρ1 a1 w1 m1 m2 m3 m4)⟩
    | cond x y z =>
      simp only [evCode] at h
      obtain ⟨v, h1, h⟩ := bind_some' h
      split at h
      · rename_i t
        have hc : ∀ {ρ : Map} {a : Act}, EnvRel ρ e a.tmps → a.eval x = .bool t := fun {ρ a} he => by
          have := opd_rel he h1
          generalize a.eval x = v' at *
          cases this
          rfl
        cases t with
        | true =>
          obtain ⟨ex, e', H', g1, g2⟩ := ih1 _ _ _ _ _ _ _ (by simpa using h)
          exact ⟨ex, e', H', g1, fun {ρ w a} hi hlo he hs Q hQ => wp_cond_true (hc he) (g2 hi hlo he hs Q hQ)⟩
        | false =>
          obtain ⟨ex, e', H', g1, g2⟩ := ih1 _ _ _ _ _ _ _ (by simpa using h)
          exact ⟨ex, e', H', g1, fun {ρ w a} hi hlo he hs Q hQ => wp_cond_false (hc he) (g2 hi hlo he hs Q hQ)⟩
      · cases h
    | block id x =>
      simp only [evCode] at h
      obtain ⟨ex, e1, H1, h1, h2⟩ := ih1 _ _ _ _ _ _ _ h
      cases ex with
      | normal => exact ⟨.normal, e1, H1, h1, fun {ρ w a} hi hlo he hs Q hQ => wp_block (h2 hi hlo he hs _ fun ρ1 a1 w1 m1 m2 m3 m4 => hQ ρ1 a1 w1 m1 m2 m3 m4)⟩
      | ret => exact ⟨.ret, e1, H1, h1, fun {ρ w a} hi hlo he hs Q hQ => wp_block (h2 hi hlo he hs _ fun ρ1 a1 w1 m1 m2 m3 m4 => hQ ρ1 a1 w1 m1 m2 m3 m4)⟩
      | exit j =>
        simp only at h1
        cases hj : Nat.beq j id with
        | true =>
          rw [hj] at h1
          have := Nat.eq_of_beq_eq_true hj
          subst this
          refine ⟨.normal, e1, H1, h1, fun {ρ w a} hi hlo he hs Q hQ => wp_block (h2 hi hlo he hs _ fun ρ1 a1 w1 m1 m2 m3 m4 => ?_)⟩
          simp only [Ex.to, Exit.inBlock, if_true]
          exact hQ ρ1 a1 w1 m1 m2 m3 m4
        | false =>
          rw [hj] at h1
          have hne : j ≠ id := fun e => by subst e; simp at hj
          refine ⟨.exit j, e1, H1, h1, fun {ρ w a} hi hlo he hs Q hQ => wp_block (h2 hi hlo he hs _ fun ρ1 a1 w1 m1 m2 m3 m4 => ?_)⟩
          simp only [Ex.to, Exit.inBlock, if_neg hne]
          exact hQ ρ1 a1 w1 m1 m2 m3 m4
    | loop x =>
      obtain ⟨ex, e', H', g1, g2⟩ := loop lo sz x e H k r h
      exact ⟨ex, e', H', g1, fun {ρ w a} hi hlo he hs Q hQ => wp_loop_rounds (n + 1) (g2 hi hlo he hs Q hQ)⟩
    | exit id => exact ⟨.exit id, e, H, h, fun {ρ w a} hi hlo he hs Q hQ => wp_exit (hQ ρ a w (Next.refl hi) he hs rfl)⟩
    | ret => exact ⟨.ret, e, H, h, fun {ρ w a} hi hlo he hs Q hQ => wp_ret (hQ ρ a w (Next.refl hi) he hs rfl)⟩
    | _ => simp [evCode] at h

/-! ### A call from without -/
def evFn {R : Type} (C : Cx) (n : Nat) (f : FuncId) (args : List Value) (k : Value → Option R) : Option R :=
  match C.P.funcs[f]? with
  | none => none
  | some fn =>
    match fn.body with
    | some c => calAt C n 0 f fn c args ⟨0, []⟩ fun v _ => bif flat v then k v else none
    | none => none

/-- A function of flat arguments: evaluated in an empty memory. -/
theorem evFn_sound {R : Type} {C : Cx} (hC : C.Ok) (hmix : C.P.follows .mixedOrders = true) {n : Nat} {f : FuncId} {args : List Value} {k : Value → Option R} {r : R} (h : evFn C n f args k = some r)
    (hargs : inns 0 args = true) : ∃ v, k v = some r ∧ flat v = true ∧ ∀ w, Calls C.P f ⟨args⟩ w fun e w' => e = .returned v ∧ RowKit.Below w.heap.size w w' := by
  unfold evFn at h
  split at h
  · cases h
  · rename_i fn hf
    split at h
    · rename_i c hb
      obtain ⟨v, H', h1, h2⟩ := cal_sound hC (fun lo sz c e H k r => (evCode_sound hC hmix n).1 lo sz c e H k r) _ _ _ _ _ _ _ _ h hf hb
      cases hfl : flat v with
      | false => rw [hfl] at h1; cases h1
      | true =>
        rw [hfl] at h1
        refine ⟨v, h1, hfl, fun w => ?_⟩
        have hi : Inv (fun _ => none) ⟨0, []⟩ w := ⟨fun _ _ => rfl, fun k o hm => by simp at hm, fun k o o' hm => by simp at hm, ⟨fun k o hm => by simp at hm, fun k o k' o' s s' hm => by simp at hm⟩⟩
        refine (h2 _ w args hi (Nat.le_refl _) (VRels.ofFlat _ hargs)).mono ?_
        rintro e w' ⟨ρ', v', rfl, g1, g2⟩
        have := g1.flat_eq hfl
        subst this
        exact ⟨rfl, g2.os, g2.tape, g2.output, g2.size, fun b hb => g2.keep b hb fun k o s _ hm => by simp at hm⟩
    · cases h

end Go.Vm
