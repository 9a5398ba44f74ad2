/- One region in its order is right; the quick test of a region that draws its order. -/
import Derived.Test.YtnbpfafngidimaaGreatVmJ
namespace Go.Vm
set_option linter.unusedVariables false
set_option linter.unusedSimpArgs false

def putE (o : Oper) (v : Value) (e : Env) : Env := match o.dst with | some d => (d, v) :: e | none => e
def dstOk (sz : Nat) (o : Oper) : Bool := match o.dst with | some d => Nat.blt d sz | none => true

theorem put_rel {ρ : Map} {e : Env} {a : Act} {sz : Nat} {o : Oper} (hd : dstOk sz o = true) (hs : a.tmps.size = sz) (he : EnvRel ρ e a.tmps) {v v' : Value} (hv : VRel ρ v v') :
    EnvRel ρ (putE o v e) (a.put o.dst v').tmps := by
  unfold putE dstOk Act.put at *
  cases hq : o.dst with
  | none => exact he
  | some d =>
    rw [hq] at hd
    simp only [Nat.blt_eq] at hd
    exact he.put (by omega) hv

theorem put_size (a : Act) (d : Option Tmp) (v : Value) : (a.put d v).tmps.size = a.tmps.size := by unfold Act.put; split <;> simp
theorem put_defers (a : Act) (d : Option Tmp) (v : Value) : (a.put d v).defers = a.defers := by unfold Act.put; split <;> rfl

def wantE (ops : Array Oper) (o : Oper) (e : Env) : Option Bool :=
  match o.guard with
  | none => some true
  | some (j, want) =>
    match (ops[j]?).bind (·.dst) with
    | some d =>
      match getE d e with
      | some (.bool b) => some (b == want)
      | some (.tuple _) => some false
      | _ => none
    | none => none

theorem wantE_sound {ops : Array Oper} {o : Oper} {e : Env} {b : Bool} (h : wantE ops o e = some b) {ρ : Map} {a : Act} (he : EnvRel ρ e a.tmps) :
    Region.wanted o (yielded ops a.tmps) = b := by
  unfold wantE at h
  unfold Region.wanted
  split at h
  · rename_i hg; rw [hg]; cases h; rfl
  · rename_i j want hg
    rw [hg]
    simp only
    split at h
    · rename_i d hd
      split at h
      · rename_i b' hb
        obtain ⟨v', h1, h2⟩ := he d _ hb
        cases h2
        cases h
        unfold yielded
        rw [hd]
        simp [h1]
      · rename_i as hb
        obtain ⟨v', h1, h2⟩ := he d _ hb
        cases h
        unfold yielded
        rw [hd]
        cases h2
        simp [h1]
      · cases h
    · cases h

def evOps {R : Type} (C : Cx) (cal : Cal R) (lo sz : Nat) (ops : Array Oper) : List Oper → Env → AH → (Env → AH → Option R) → Option R
  | [], e, H, k => k e H
  | o :: rest, e, H, k =>
    bif dstOk sz o then
      (wantE ops o e).bind fun b =>
        bif b then evAny C cal lo e H o fun v H' => evOps C cal lo sz ops rest (putE o v e) H' k
        else evOps C cal lo sz ops rest (putE o undef e) H k
    else none

theorem evOps_sound {R : Type} {C : Cx} {cal : Cal R} (hC : C.Ok) (hcal : CalOk C.P cal) {lo sz : Nat} {ops : Array Oper} : ∀ {rest : List Oper} {e : Env} {H : AH} {k : Env → AH → Option R} {r : R},
    evOps C cal lo sz ops rest e H k = some r → ∃ e' H', k e' H' = some r ∧ ∀ {ρ : Map} {w : World} {a : Act}, Inv ρ H w → lo ≤ H.next → EnvRel ρ e a.tmps → a.tmps.size = sz →
      ∀ Q : Exit → Act → World → Prop, (∀ ρ' a' w', Next lo ρ H w ρ' H' w' → EnvRel ρ' e' a'.tmps → a'.tmps.size = sz → a'.defers = a.defers → Q .normal a' w') → wpList C.P ops Q rest a w
  | [], e, H, k, r, h => ⟨e, H, h, fun {ρ w a} hi hlo he hs Q hQ => hQ ρ a w (Next.refl hi) he hs rfl⟩
  | o :: rest, e, H, k, r, h => by
    unfold evOps at h
    cases hd : dstOk sz o with
    | false => rw [hd] at h; cases h
    | true =>
      rw [hd] at h
      simp only [cond_true] at h
      obtain ⟨b, h1, h⟩ := bind_some' h
      cases b with
      | true =>
        simp only [cond_true] at h
        obtain ⟨v, H1, g1, g2⟩ := evAny_sound hC hcal h
        obtain ⟨e', H', k1, k2⟩ := evOps_sound hC hcal (rest := rest) g1
        refine ⟨e', H', k1, fun {ρ w a} hi hlo he hs Q hQ => ?_⟩
        unfold wpList
        rw [if_pos (wantE_sound h1 he)]
        refine .inl (g2 hi hlo he _ Q fun ρ2 w2 v2 m1 m2 => ?_)
        exact k2 m1.inv (Nat.le_trans hlo m1.nx) (put_rel hd hs (he.mono (m1.ext hi)) m2) (by rw [put_size]; exact hs) Q fun ρ' a' w' q1 q2 q3 q4 =>
          hQ ρ' a' w' (m1.trans q1) q2 q3 (by rw [q4, put_defers])
      | false =>
        simp only [cond_false] at h
        obtain ⟨e', H', k1, k2⟩ := evOps_sound hC hcal (rest := rest) h
        refine ⟨e', H', k1, fun {ρ w a} hi hlo he hs Q hQ => ?_⟩
        unfold wpList
        rw [if_neg (by rw [wantE_sound h1 he]; exact Bool.false_ne_true)]
        exact k2 hi hlo (put_rel hd hs he (.tuple .nil)) (by rw [put_size]; exact hs) Q fun ρ' a' w' q1 q2 q3 q4 => hQ ρ' a' w' q1 q2 q3 (by rw [q4, put_defers])

/-! ### A region that draws its order -/
def readsOf (ops : Array Oper) (o : Oper) : List Tmp :=
  (o.op.operands.toList.filterMap fun | .tmp t => some t | _ => none) ++
  (match o.guard with
   | some (g, _) => ((ops[g]?).bind (·.dst)).toList
   | none => [])

def restrE (e : Env) : List Tmp → Env
  | [] => []
  | t :: r => match getE t e with | some v => (t, v) :: restrE e r | none => restrE e r

theorem getE_restr {e : Env} {t : Tmp} {v : Value} : ∀ {l : List Tmp}, getE t (restrE e l) = some v → t ∈ l ∧ getE t e = some v
  | [], h => by simp [restrE, getE] at h
  | s :: r, h => by
    unfold restrE at h
    split at h
    · rename_i u hu
      unfold getE at h
      cases hb : Nat.beq s t with
      | true =>
        have := Nat.eq_of_beq_eq_true hb
        subst this
        rw [hb] at h
        cases h
        exact ⟨by simp, hu⟩
      | false =>
        rw [hb] at h
        have := getE_restr (l := r) h
        exact ⟨by simp [this.1], this.2⟩
    · have := getE_restr (l := r) h
      exact ⟨by simp [this.1], this.2⟩

def isW (o : Oper) : Bool :=
  match o.op with
  | .move _ | .assign _ | .pick .. | .nilCheck _ | .binOp .. | .unOp .. | .convert .. | .makeInterface .. | .makeFunc .. | .slice .. | .fieldAddr .. | .field ..
  | .indexAddr .. | .index .. | .typeAssert .. | .extract .. | .build .. => true
  | .call { callee := .builtin b, .. } => match b with | .real | .imag | .complex | .len | .min | .max => true | _ => false
  | _ => false

def isM (o : Oper) : Bool :=
  match o.op with
  | .store .. | .mapUpdate .. | .insert .. | .entryStore .. => true
  | .call { callee := .builtin b, .. } => match b with | .real | .imag | .complex | .len | .min | .max => false | _ => true
  | _ => false

def dep (o : Oper) (j : Nat) : Bool := o.after.toList.any fun e => Region.binds .any e && Nat.beq e.on j

/-- Of two operations, i ahead of j: what the order must bear. -/
def pairOk (ops : Array Oper) (i : Nat) (oi : Oper) (j : Nat) (oj : Oper) : Bool :=
  (match oi.dst with
   | some d => (match oj.dst with | some d' => !Nat.beq d d' | none => true) && (!(readsOf ops oj).any (Nat.beq d) || dep oj i)
   | none => true) &&
  (match oj.dst with
   | some d => !(readsOf ops oi).any (Nat.beq d) || dep oj i
   | none => true) &&
  (!isM oi || isW oj || (isM oj && dep oj i)) &&
  (!isM oj || isW oi || dep oj i)

def pairsOk (ops : Array Oper) : List (Oper × Nat) → Bool
  | [] => true
  | (o, i) :: r => (o.after.toList.all fun e => !Region.binds .any e || Nat.blt e.on i) && (r.all fun (oj, j) => pairOk ops i o j oj) && pairsOk ops r

def drawOk (ops : Array Oper) : Bool := pairsOk ops ops.toList.zipIdx

def evDraw {R : Type} (C : Cx) (cal : Cal R) (lo sz : Nat) (ops : Array Oper) : List Oper → Env → AH → (Env → AH → Option R) → Option R
  | [], e, H, k => k e H
  | o :: rest, e, H, k =>
    bif dstOk sz o then
      (wantE ops o (restrE e (readsOf ops o))).bind fun b =>
        bif b then
          bif isM o then evAny C cal lo (restrE e (readsOf ops o)) H o fun v H' => bif Nat.beq H'.next H.next then evDraw C cal lo sz ops rest (putE o v e) H' k else none
          else evAny C cal H.next (restrE e (readsOf ops o)) ⟨H.next, bif isW o then [] else H.objs⟩ o fun v H' => bif Nat.beq H'.next H.next then evDraw C cal lo sz ops rest (putE o v e) H k else none
        else evDraw C cal lo sz ops rest (putE o undef e) H k
    else none

/-- What is known of one operation of the canonical order. -/
def StepOk (C : Cx) (lo : Nat) (ops : Array Oper) (o : Oper) (er : Env) (H : AH) (v : Value) (H1 : AH) : Prop :=
  (wantE ops o er = some false ∧ v = undef ∧ H1 = H) ∨
  (wantE ops o er = some true ∧ isM o = true ∧ H1.next = H.next ∧ ∀ {ρ : Map} {w : World} {a : Act}, Inv ρ H w → lo ≤ H.next → EnvRel ρ er a.tmps → OpWp C.P lo o a ρ H w v H1) ∨
  (wantE ops o er = some true ∧ isM o = false ∧ H1 = H ∧ ∃ H2 : AH, H2.next = H.next ∧ ∀ {ρ : Map} {w : World} {a : Act}, Inv ρ ⟨H.next, bif isW o then [] else H.objs⟩ w → EnvRel ρ er a.tmps →
    OpWp C.P H.next o a ρ ⟨H.next, bif isW o then [] else H.objs⟩ w v H2)

theorem evDraw_trace {R : Type} {C : Cx} {cal : Cal R} (hC : C.Ok) (hcal : CalOk C.P cal) {lo sz : Nat} {ops : Array Oper} : ∀ {rest : List Oper} {e : Env} {H : AH} {k : Env → AH → Option R} {r : R},
    evDraw C cal lo sz ops rest e H k = some r → ∃ (vals : Nat → Value) (heaps : Nat → AH) (envs : Nat → Env), heaps 0 = H ∧ envs 0 = e ∧ k (envs rest.length) (heaps rest.length) = some r ∧
      ∀ (j : Nat) o, rest[j]? = some o → dstOk sz o = true ∧ StepOk C lo ops o (restrE (envs j) (readsOf ops o)) (heaps j) (vals j) (heaps (j + 1)) ∧ envs (j + 1) = putE o (vals j) (envs j)
  | [], e, H, k, r, h => ⟨fun _ => undef, fun _ => H, fun _ => e, rfl, rfl, h, fun j o hj => by simp at hj⟩
  | o :: rest, e, H, k, r, h => by
    unfold evDraw at h
    have fin : ∀ (v : Value) (H1 : AH), dstOk sz o = true → StepOk C lo ops o (restrE e (readsOf ops o)) H v H1 → evDraw C cal lo sz ops rest (putE o v e) H1 k = some r →
        ∃ (vals : Nat → Value) (heaps : Nat → AH) (envs : Nat → Env), heaps 0 = H ∧ envs 0 = e ∧ k (envs (o :: rest).length) (heaps (o :: rest).length) = some r ∧
          ∀ (j : Nat) o', (o :: rest)[j]? = some o' → dstOk sz o' = true ∧ StepOk C lo ops o' (restrE (envs j) (readsOf ops o')) (heaps j) (vals j) (heaps (j + 1)) ∧ envs (j + 1) = putE o' (vals j) (envs j) := by
      intro v H1 hd hs hr
      obtain ⟨vals, heaps, envs, h1, h2, h3, h4⟩ := evDraw_trace hC hcal (rest := rest) hr
      refine ⟨fun | 0 => v | j + 1 => vals j, fun | 0 => H | j + 1 => heaps j, fun | 0 => e | j + 1 => envs j, rfl, rfl, h3, fun j o' hj => ?_⟩
      cases j with
      | zero =>
        simp only [List.getElem?_cons_zero, Option.some.injEq] at hj
        subst hj
        exact ⟨hd, by simp only [h1]; exact hs, h2⟩
      | succ j => exact h4 j o' (by simpa using hj)
    cases hd : dstOk sz o with
    | false => rw [hd] at h; cases h
    | true =>
      rw [hd] at h
      simp only [cond_true] at h
      obtain ⟨b, h1, h⟩ := bind_some' h
      cases b with
      | false =>
        simp only [cond_false] at h
        exact fin undef H hd (.inl ⟨h1, rfl, rfl⟩) h
      | true =>
        simp only [cond_true] at h
        cases hm : isM o with
        | true =>
          rw [hm] at h
          simp only [cond_true] at h
          obtain ⟨v, H1, g1, g2⟩ := evAny_sound hC hcal h
          cases hn : Nat.beq H1.next H.next with
          | false => rw [hn] at g1; cases g1
          | true =>
            rw [hn] at g1
            exact fin v H1 hd (.inr (.inl ⟨h1, hm, Nat.eq_of_beq_eq_true hn, g2⟩)) g1
        | false =>
          rw [hm] at h
          simp only [cond_false] at h
          obtain ⟨v, H1, g1, g2⟩ := evAny_sound hC hcal h
          cases hn : Nat.beq H1.next H.next with
          | false => rw [hn] at g1; cases g1
          | true =>
            rw [hn] at g1
            exact fin v H hd (.inr (.inr ⟨h1, hm, rfl, H1, Nat.eq_of_beq_eq_true hn, fun {ρ w a} hi he => g2 hi (Nat.le_refl _) he⟩)) g1

end Go.Vm
