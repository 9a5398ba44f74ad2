/- One operation that calls nothing is right; no conditions. -/
import Derived.Test.YtnbpfafngidimaaGreatVmH
namespace Go.Vm
set_option linter.unusedVariables false
set_option linter.unusedSimpArgs false

def optE (e : Env) : Option Operand → Option (Option Value)
  | none => some none
  | some x => (opd e x).bind fun v => some (some v)

theorem optE_rel {ρ : Map} {e : Env} {a : Act} (he : EnvRel ρ e a.tmps) {x : Option Operand} {v : Option Value} (h : optE e x = some v) : ORel ρ v (x.map a.eval) := by
  cases x with
  | none => simp [optE] at h; subst h; exact .none
  | some x =>
    obtain ⟨u, h1, h⟩ := bind_some' h
    cases h
    exact .some (opd_rel he h1)

/-- One operation that is no call of a Go function. -/
def evOp {R : Type} (fi : Fi) (P : Program) (lo : Nat) (e : Env) (H : AH) (o : Oper) (k : Value → AH → Option R) : Option R :=
  match o.op with
  | .move x => (opd e x).bind fun v => k v H
  | .assign x => (opd e x).bind fun v => k v H
  | .pick c x y => (opd e c).bind fun c => pickE c (opd e x) (opd e y) fun v => k v H
  | .alloc t => allocE P H t k
  | .box t x => (opd e x).bind fun v => newE H v.cells.toList k
  | .build t ps => (partsE e ps.toList).bind fun vs => buildE P t vs fun v => k v H
  | .buildSlice t n ps => (partsE e ps.toList).bind fun vs => buildSliceE P H t n vs k
  | .load t x => (opd e x).bind fun v =>
      match v with
      | .pointer (some ad) =>
        match look ad.block H.objs with
        | some (.cells cs _) => loadE P t cs ad.off fun v => k v H
        | _ => none
      | _ => none
  | .store t x y => (opd e x).bind fun p => (opd e y).bind fun v =>
      match p with
      | .pointer (some ad) => storeE P lo H t ad v fun H' => k undef H'
      | _ => none
  | .nilCheck x => (opd e x).bind fun v => nilCheckE v fun v => k v H
  | .binOp op t x y _ => (opd e x).bind fun u => (opd e y).bind fun v => binE fi op u v (fun v => k v H) (eqAggE P op t u v (fun v => k v H) (calmOp P e H o k))
  | .unOp op t x => (opd e x).bind fun u => unE op u (fun v => k v H) (calmOp P e H o k)
  | .convert s d x => (opd e x).bind fun u => convE fi P s d u (fun v => k v H) (calmOp P e H o k)
  | .makeInterface t x => (opd e x).bind fun u => makeIfaceE P t u fun v => k v H
  | .makeFunc f xs ys => (opds e xs.toList).bind fun us => (opds e ys.toList).bind fun vs => k (.func f ⟨us⟩ ⟨vs⟩) H
  | .makeSlice t l c => (opd e l).bind fun u => (opd e c).bind fun v => makeSliceE P H t u v k
  | .slice t x l h none => (opd e x).bind fun v => (optE e l).bind fun l => (optE e h).bind fun h => sliceE P t v l h fun v => k v H
  | .fieldAddr s x f => (opd e x).bind fun v => fieldAddrE P s v f fun v => k v H
  | .field t x f => (opd e x).bind fun v => fieldE P t v f fun v => k v H
  | .indexAddr t x i => (opd e x).bind fun v => (opd e i).bind fun i => indexAddrE P t v i fun v => k v H
  | .index t x i => (opd e x).bind fun v => (opd e i).bind fun i => indexE P t v i fun v => k v H
  | .typeAssert x _ t c => (opd e x).bind fun v => assertE P v t c fun v => k v H
  | .extract x i => (opd e x).bind fun v => extractE v i fun v => k v H
  | .call { callee := .builtin b, args := xs, argTypes := ts } => (opds e xs.toList).bind fun vs => builtinE P b ts vs (fun v => k v H) (calmOp P e H o k)
  | _ => none

theorem Done.flat {P : Program} {lo : Nat} {o : Oper} {a : Act} {ρ : Map} {H : AH} {w : World} {v : Value} (hi : Inv ρ H w) (hf : flat v = true)
    (hr : (execOp a.eval o).run P w = .ok (.value v) w) : Done P lo o a ρ H w v H := Done.calm hi hr (VRel.ofFlat ρ hf)

theorem evOp_sound {R : Type} {P : Program} {lo : Nat} {e : Env} {H : AH} {o : Oper} {k : Value → AH → Option R} {r : R} {fi : Fi} (hfi : fi.Fair) (h : evOp fi P lo e H o k = some r) :
    ∃ v H', k v H' = some r ∧ ∀ {ρ : Map} {w : World} {a : Act}, Inv ρ H w → lo ≤ H.next → EnvRel ρ e a.tmps → Done P lo o a ρ H w v H' := by
  have hcalm := fun h => calmOp_sound (lo := lo) (P := P) (e := e) (H := H) (o := o) (k := k) (r := r) h
  unfold evOp at h
  split at h
  · rename_i x ho
    obtain ⟨v, h1, h⟩ := bind_some' h
    exact ⟨v, H, h, fun {ρ w a} hi hlo he => Done.value (w' := w) (by simp [execOp, ho]) (Next.refl hi) (opd_rel he h1)⟩
  · rename_i x ho
    obtain ⟨v, h1, h⟩ := bind_some' h
    exact ⟨v, H, h, fun {ρ w a} hi hlo he => Done.value (w' := w) (by simp [execOp, ho]) (Next.refl hi) (opd_rel he h1)⟩
  · rename_i c x y ho
    obtain ⟨v, h1, h⟩ := bind_some' h
    unfold pickE at h
    split at h
    · rename_i t
      have hrun : ∀ {ρ : Map} {w : World} {a : Act}, EnvRel ρ e a.tmps → (execOp a.eval o).run P w = .ok (.value (if t then a.eval x else a.eval y)) w := fun {ρ w a} he => by
        have hc := opd_rel he h1
        generalize hec : a.eval c = c' at hc
        cases hc
        simp [execOp, ho, hec, asBool]
      split at h
      · rename_i u v hx hy
        refine ⟨_, H, h, fun {ρ w a} hi hlo he => Done.value (w' := w) (hrun he) (Next.refl hi) ?_⟩
        have r1 := opd_rel he hx
        have r2 := opd_rel he hy
        generalize a.eval x = x' at *
        generalize a.eval y = y' at *
        cases r1; cases r2
        cases t <;> exact .bool _
      · cases t with
        | true =>
          obtain ⟨v, h2, h⟩ := bind_some' (by simpa using h)
          exact ⟨v, H, h, fun {ρ w a} hi hlo he => Done.value (w' := w) (hrun he) (Next.refl hi) (opd_rel he h2)⟩
        | false =>
          obtain ⟨v, h2, h⟩ := bind_some' (by simpa using h)
          exact ⟨v, H, h, fun {ρ w a} hi hlo he => Done.value (w' := w) (hrun he) (Next.refl hi) (opd_rel he h2)⟩
    · cases h
  · rename_i t ho
    obtain ⟨v, H', g1, g2⟩ := allocE_sound (lo := lo) h ho
    exact ⟨v, H', g1, fun hi hlo he => g2 hi hlo⟩
  · rename_i t x ho
    obtain ⟨v, h1, h⟩ := bind_some' h
    obtain ⟨u, H', g1, g2⟩ := boxE_sound (P := P) (lo := lo) h ho
    exact ⟨u, H', g1, fun hi hlo he => g2 hi hlo (opd_rel he h1)⟩
  · rename_i t ps ho
    obtain ⟨vs, h1, h⟩ := bind_some' h
    obtain ⟨v, g1, g2⟩ := buildE_sound h
    refine ⟨v, H, g1, fun {ρ w a} hi hlo he => ?_⟩
    obtain ⟨v', g2, g3⟩ := g2 (w := w) (partsE_rel he h1)
    refine Done.value (w' := w) ?_ (Next.refl hi) g3
    have e1 : (ps.map fun (i, x) => (i, a.eval x)) = (ps.toList.map fun (i, x) => (i, a.eval x)).toArray := by apply Array.ext'; simp
    simp only [execOp, ho, e1, Sem.run_bind, g2, Result.andThen_ok, Sem.run_pure]
  · rename_i t n ps ho
    obtain ⟨vs, h1, h⟩ := bind_some' h
    obtain ⟨v, H', g1, g2⟩ := buildSliceE_sound (lo := lo) h ho
    exact ⟨v, H', g1, fun hi hlo he => g2 hi hlo (partsE_rel he h1)⟩
  · rename_i t x ho
    obtain ⟨v, h1, h⟩ := bind_some' h
    split at h
    · rename_i ad
      split at h
      · rename_i cs sz hl
        obtain ⟨v, g1, g2⟩ := loadE_sound h
        refine ⟨v, H, g1, fun {ρ w a} hi hlo he => ?_⟩
        have hx := opd_rel he h1
        generalize hex : a.eval x = x' at hx
        cases hx with
        | @ptr kb off sp hk =>
          obtain ⟨s, e1, e2⟩ := hi.rel.obj _ _ (look_mem hl)
          rw [hk] at e1
          cases e1
          obtain ⟨v', g2, g3⟩ := g2 e2
          exact Done.value (w' := w) (by simp [execOp, ho, hex, Instr.loadAt, Instr.sureAddr, g2]) (Next.refl hi) g3
      · cases h
    · cases h
  · rename_i t x y ho
    obtain ⟨p, h1, h⟩ := bind_some' h
    obtain ⟨v, h2, h⟩ := bind_some' h
    split at h
    · rename_i ad
      obtain ⟨H', g1, g2⟩ := storeE_sound h
      refine ⟨undef, H', g1, fun {ρ w a} hi hlo he => ?_⟩
      have hx := opd_rel he h1
      have hy := opd_rel he h2
      generalize hex : a.eval x = x' at hx
      cases hx with
      | @ptr kb off sp hk =>
        obtain ⟨w', g2, g3⟩ := g2 hi (.ptr hk) hy
        exact Done.skip (by simp [execOp, ho, hex, Instr.storeAt, Instr.sureAddr, g2]) g3
    · cases h
  · rename_i x ho
    obtain ⟨v, h1, h⟩ := bind_some' h
    obtain ⟨v, g1, g2⟩ := nilCheckE_sound (P := P) (lo := lo) (H := H) h ho
    exact ⟨v, H, g1, fun hi hlo he => g2 hi (opd_rel he h1)⟩
  · rename_i op t x y yt ho
    obtain ⟨u, h1, h⟩ := bind_some' h
    obtain ⟨v, h2, h⟩ := bind_some' h
    rcases binE_sound (P := P) (t := t) (ox := x) (oy := y) hfi h with h | ⟨v, g1, g2, g3⟩
    · rcases eqAggE_sound (P := P) (ox := x) (oy := y) h with h | ⟨v, g1, g2, g3⟩
      · exact hcalm h
      · refine ⟨v, H, g1, fun {ρ w a} hi hlo he => Done.flat hi g2 ?_⟩
        simp only [execOp, ho]
        rw [Sem.run_bind, g3 (opd_rel he h1) (opd_rel he h2)]
        rfl
    · refine ⟨v, H, g1, fun {ρ w a} hi hlo he => Done.flat hi g2 ?_⟩
      simp only [execOp, ho]
      rw [Sem.run_bind, g3 (opd_rel he h1) (opd_rel he h2)]
      rfl
  · rename_i op t x ho
    obtain ⟨u, h1, h⟩ := bind_some' h
    rcases unE_sound (P := P) h with h | ⟨v, g1, g2, g3⟩
    · exact hcalm h
    · exact ⟨v, H, g1, fun {ρ w a} hi hlo he => Done.flat hi g2 (by simp [execOp, ho, g3 (opd_rel he h1)])⟩
  · rename_i s d x ho
    obtain ⟨u, h1, h⟩ := bind_some' h
    rcases convE_sound (P := P) hfi h with h | ⟨v, g1, g2, g3⟩
    · exact hcalm h
    · exact ⟨v, H, g1, fun {ρ w a} hi hlo he => Done.flat hi g2 (by simp [execOp, ho, g3 (opd_rel he h1)])⟩
  · rename_i t x ho
    obtain ⟨v, h1, h⟩ := bind_some' h
    obtain ⟨v, g1, g2⟩ := makeIfaceE_sound (lo := lo) (H := H) h ho
    exact ⟨v, H, g1, fun hi hlo he => g2 hi (opd_rel he h1)⟩
  · rename_i f xs ys ho
    obtain ⟨us, h1, h⟩ := bind_some' h
    obtain ⟨vs, h2, h⟩ := bind_some' h
    refine ⟨_, H, h, fun {ρ w a} hi hlo he => Done.value (w' := w) (v' := .func f ⟨xs.toList.map a.eval⟩ ⟨ys.toList.map a.eval⟩) ?_ (Next.refl hi) (.func f (opds_rel he h1) (opds_rel he h2))⟩
    have e1 : xs.map a.eval = ⟨xs.toList.map a.eval⟩ := by apply Array.ext'; simp
    have e2 : ys.map a.eval = ⟨ys.toList.map a.eval⟩ := by apply Array.ext'; simp
    simp [execOp, ho, Instr.makeFunc, e1, e2]
  · rename_i t l c ho
    obtain ⟨u, h1, h⟩ := bind_some' h
    obtain ⟨v, h2, h⟩ := bind_some' h
    obtain ⟨v, H', g1, g2⟩ := makeSliceE_sound (lo := lo) h ho
    exact ⟨v, H', g1, fun hi hlo he => g2 hi hlo (opd_rel he h1) (opd_rel he h2)⟩
  · rename_i t x l hh ho
    obtain ⟨v, h1, h⟩ := bind_some' h
    obtain ⟨l', h2, h⟩ := bind_some' h
    obtain ⟨h', h3, h⟩ := bind_some' h
    obtain ⟨v, g1, g2⟩ := sliceE_sound (lo := lo) (H := H) h ho
    exact ⟨v, H, g1, fun hi hlo he => g2 hi (opd_rel he h1) (optE_rel he h2) (optE_rel he h3)⟩
  · rename_i s x f ho
    obtain ⟨v, h1, h⟩ := bind_some' h
    obtain ⟨v, g1, g2⟩ := fieldAddrE_sound (lo := lo) (H := H) h ho
    exact ⟨v, H, g1, fun hi hlo he => g2 hi (opd_rel he h1)⟩
  · rename_i t x f ho
    obtain ⟨v, h1, h⟩ := bind_some' h
    obtain ⟨v, g1, g2⟩ := fieldE_sound (lo := lo) (H := H) h ho
    exact ⟨v, H, g1, fun hi hlo he => g2 hi (opd_rel he h1)⟩
  · rename_i t x i ho
    obtain ⟨v, h1, h⟩ := bind_some' h
    obtain ⟨u, h2, h⟩ := bind_some' h
    obtain ⟨v, g1, g2⟩ := indexAddrE_sound (lo := lo) (H := H) h ho
    exact ⟨v, H, g1, fun hi hlo he => g2 hi (opd_rel he h1) (opd_rel he h2)⟩
  · rename_i t x i ho
    obtain ⟨v, h1, h⟩ := bind_some' h
    obtain ⟨u, h2, h⟩ := bind_some' h
    obtain ⟨v, g1, g2⟩ := indexE_sound (lo := lo) (H := H) h ho
    exact ⟨v, H, g1, fun hi hlo he => g2 hi (opd_rel he h1) (opd_rel he h2)⟩
  · rename_i x xt t c ho
    obtain ⟨v, h1, h⟩ := bind_some' h
    obtain ⟨v, g1, g2⟩ := assertE_sound (lo := lo) (H := H) h ho
    exact ⟨v, H, g1, fun hi hlo he => g2 hi (opd_rel he h1)⟩
  · rename_i x i ho
    obtain ⟨v, h1, h⟩ := bind_some' h
    obtain ⟨v, g1, g2⟩ := extractE_sound (P := P) (lo := lo) (H := H) h ho
    exact ⟨v, H, g1, fun hi hlo he => g2 hi (opd_rel he h1)⟩
  · rename_i b xs ts ho
    obtain ⟨vs, h1, h⟩ := bind_some' h
    rcases builtinE_sound (P := P) (ty := o.type) h with h | ⟨v, g1, g2, g3⟩
    · exact hcalm h
    · refine ⟨v, H, g1, fun {ρ w a} hi hlo he => Done.flat hi g2 ?_⟩
      obtain ⟨cs, hrun⟩ := run_call_builtin (P := P) (a := a) (w := w) ho rfl
      rw [hrun]
      have e1 : xs.map a.eval = ⟨xs.toList.map a.eval⟩ := by apply Array.ext'; simp
      rw [e1]
      exact g3 (opds_rel he h1)
  · cases h

end Go.Vm
