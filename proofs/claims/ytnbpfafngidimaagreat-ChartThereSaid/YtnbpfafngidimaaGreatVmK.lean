/- One region in its order is right; the quick test of a region that draws its order. A region that draws its order is right in each order. -/
import Derived.Test.YtnbpfafngidimaaGreatVmJ
namespace Go.Vm
set_option linter.unusedVariables false
set_option linter.unusedSimpArgs false

def putE (o : Oper) (v : Value) (e : Env) : Env := match o.dst with | some d => (d, v) :: e | none => e
def dstOk (sz : Nat) (o : Oper) : Bool := match o.dst with | some d => Nat.blt d sz | none => true

theorem put_rel {ρ : Map} {e : Env} {a : Act} {sz : Nat} {o : Oper} (hd : dstOk sz o = true) (hs : a.tmps.size = sz) (he : EnvRel ρ e a.tmps) {v v' : Value} (hv : VRel ρ v v') :
    EnvRel ρ (putE o v e) (a.put o.dst v').tmps := by
  unfold putE dstOk Act.put at *
  cases hq : o.dst with
  | none => exact he
  | some d =>
    rw [hq] at hd
    simp only [Nat.blt_eq] at hd
    exact he.put (by omega) hv

theorem put_size (a : Act) (d : Option Tmp) (v : Value) : (a.put d v).tmps.size = a.tmps.size := by unfold Act.put; split <;> simp
theorem put_defers (a : Act) (d : Option Tmp) (v : Value) : (a.put d v).defers = a.defers := by unfold Act.put; split <;> rfl

def wantE (ops : Array Oper) (o : Oper) (e : Env) : Option Bool :=
  match o.guard with
  | none => some true
  | some (j, want) =>
    match (ops[j]?).bind (·.dst) with
    | some d =>
      match getE d e with
      | some (.bool b) => some (b == want)
      | some (.tuple _) => some false
      | _ => none
    | none => none

theorem wantE_sound {ops : Array Oper} {o : Oper} {e : Env} {b : Bool} (h : wantE ops o e = some b) {ρ : Map} {a : Act} (he : EnvRel ρ e a.tmps) :
    Region.wanted o (yielded ops a.tmps) = b := by
  unfold wantE at h
  unfold Region.wanted
  split at h
  · rename_i hg; rw [hg]; cases h; rfl
  · rename_i j want hg
    rw [hg]
    simp only
    split at h
    · rename_i d hd
      split at h
      · rename_i b' hb
        obtain ⟨v', h1, h2⟩ := he d _ hb
        cases h2
        cases h
        unfold yielded
        rw [hd]
        simp [h1]
      · rename_i as hb
        obtain ⟨v', h1, h2⟩ := he d _ hb
        cases h
        unfold yielded
        rw [hd]
        cases h2
        simp [h1]
      · cases h
    · cases h

def evOps {R : Type} (C : Cx) (cal : Cal R) (lo sz : Nat) (ops : Array Oper) : List Oper → Env → AH → (Env → AH → Option R) → Option R
  | [], e, H, k => k e H
  | o :: rest, e, H, k =>
    bif dstOk sz o then
      (wantE ops o e).bind fun b =>
        bif b then evAny C cal lo e H o fun v H' => evOps C cal lo sz ops rest (putE o v e) H' k
        else evOps C cal lo sz ops rest (putE o undef e) H k
    else none

theorem evOps_sound {R : Type} {C : Cx} {cal : Cal R} (hC : C.Ok) (hcal : CalOk C.P cal) {lo sz : Nat} {ops : Array Oper} : ∀ {rest : List Oper} {e : Env} {H : AH} {k : Env → AH → Option R} {r : R},
    evOps C cal lo sz ops rest e H k = some r → ∃ e' H', k e' H' = some r ∧ ∀ {ρ : Map} {w : World} {a : Act}, Inv ρ H w → lo ≤ H.next → EnvRel ρ e a.tmps → a.tmps.size = sz →
      ∀ Q : Exit → Act → World → Prop, (∀ ρ' a' w', Next lo ρ H w ρ' H' w' → EnvRel ρ' e' a'.tmps → a'.tmps.size = sz → a'.defers = a.defers → Q .normal a' w') → wpList C.P ops Q rest a w
  | [], e, H, k, r, h => ⟨e, H, h, fun {ρ w a} hi hlo he hs Q hQ => hQ ρ a w (Next.refl hi) he hs rfl⟩
  | o :: rest, e, H, k, r, h => by
    unfold evOps at h
    cases hd : dstOk sz o with
    | false => rw [hd] at h; cases h
    | true =>
      rw [hd] at h
      simp only [cond_true] at h
      obtain ⟨b, h1, h⟩ := bind_some' h
      cases b with
      | true =>
        simp only [cond_true] at h
        obtain ⟨v, H1, g1, g2⟩ := evAny_sound hC hcal h
        obtain ⟨e', H', k1, k2⟩ := evOps_sound hC hcal (rest := rest) g1
        refine ⟨e', H', k1, fun {ρ w a} hi hlo he hs Q hQ => ?_⟩
        unfold wpList
        rw [if_pos (wantE_sound h1 he)]
        refine .inl (g2 hi hlo he _ Q fun ρ2 w2 v2 m1 m2 => ?_)
        exact k2 m1.inv (Nat.le_trans hlo m1.nx) (put_rel hd hs (he.mono (m1.ext hi)) m2) (by rw [put_size]; exact hs) Q fun ρ' a' w' q1 q2 q3 q4 =>
          hQ ρ' a' w' (m1.trans q1) q2 q3 (by rw [q4, put_defers])
      | false =>
        simp only [cond_false] at h
        obtain ⟨e', H', k1, k2⟩ := evOps_sound hC hcal (rest := rest) h
        refine ⟨e', H', k1, fun {ρ w a} hi hlo he hs Q hQ => ?_⟩
        unfold wpList
        rw [if_neg (by rw [wantE_sound h1 he]; exact Bool.false_ne_true)]
        exact k2 hi hlo (put_rel hd hs he (.tuple .nil)) (by rw [put_size]; exact hs) Q fun ρ' a' w' q1 q2 q3 q4 => hQ ρ' a' w' q1 q2 q3 (by rw [q4, put_defers])

/-! ### A region that draws its order -/
def readsOf (ops : Array Oper) (o : Oper) : List Tmp :=
  (o.op.operands.toList.filterMap fun | .tmp t => some t | _ => none) ++
  (match o.guard with
   | some (g, _) => ((ops[g]?).bind (·.dst)).toList
   | none => [])

def restrE (e : Env) : List Tmp → Env
  | [] => []
  | t :: r => match getE t e with | some v => (t, v) :: restrE e r | none => restrE e r

theorem getE_restr {e : Env} {t : Tmp} {v : Value} : ∀ {l : List Tmp}, getE t (restrE e l) = some v → t ∈ l ∧ getE t e = some v
  | [], h => by simp [restrE, getE] at h
  | s :: r, h => by
    unfold restrE at h
    split at h
    · rename_i u hu
      unfold getE at h
      cases hb : Nat.beq s t with
      | true =>
        have := Nat.eq_of_beq_eq_true hb
        subst this
        rw [hb] at h
        cases h
        exact ⟨by simp, hu⟩
      | false =>
        rw [hb] at h
        have := getE_restr (l := r) h
        exact ⟨by simp [this.1], this.2⟩
    · have := getE_restr (l := r) h
      exact ⟨by simp [this.1], this.2⟩

def isW (o : Oper) : Bool :=
  match o.op with
  | .move _ | .assign _ | .pick .. | .nilCheck _ | .binOp .. | .unOp .. | .convert .. | .makeInterface .. | .makeFunc .. | .slice .. | .fieldAddr .. | .field ..
  | .indexAddr .. | .index .. | .typeAssert .. | .extract .. | .build .. => true
  | .call { callee := .builtin b, .. } => match b with | .real | .imag | .complex | .len | .min | .max => true | _ => false
  | _ => false

def isM (o : Oper) : Bool :=
  match o.op with
  | .store .. | .mapUpdate .. | .insert .. | .entryStore .. => true
  | .call { callee := .builtin b, .. } => match b with | .real | .imag | .complex | .len | .min | .max => false | _ => true
  | _ => false

def dep (o : Oper) (j : Nat) : Bool := o.after.toList.any fun e => Region.binds .any e && Nat.beq e.on j

/-- Of two operations, i ahead of j: what the order must bear. -/
def pairOk (ops : Array Oper) (i : Nat) (oi : Oper) (j : Nat) (oj : Oper) : Bool :=
  (match oi.dst with
   | some d => (match oj.dst with | some d' => !Nat.beq d d' | none => true) && (!(readsOf ops oj).any (Nat.beq d) || dep oj i)
   | none => true) &&
  (match oj.dst with
   | some d => !(readsOf ops oi).any (Nat.beq d) || dep oj i
   | none => true) &&
  (!isM oi || isW oj || (isM oj && dep oj i)) &&
  (!isM oj || isW oi || dep oj i)

def pairsOk (ops : Array Oper) : List (Oper × Nat) → Bool
  | [] => true
  | (o, i) :: r => (o.after.toList.all fun e => !Region.binds .any e || Nat.blt e.on i) && (r.all fun (oj, j) => pairOk ops i o j oj) && pairsOk ops r

def drawOk (ops : Array Oper) : Bool := pairsOk ops ops.toList.zipIdx

def evDraw {R : Type} (C : Cx) (cal : Cal R) (lo sz : Nat) (ops : Array Oper) : List Oper → Env → AH → (Env → AH → Option R) → Option R
  | [], e, H, k => k e H
  | o :: rest, e, H, k =>
    bif dstOk sz o then
      (wantE ops o (restrE e (readsOf ops o))).bind fun b =>
        bif b then
          bif isM o then evAny C cal lo (restrE e (readsOf ops o)) H o fun v H' => bif Nat.beq H'.next H.next then evDraw C cal lo sz ops rest (putE o v e) H' k else none
          else evAny C cal H.next (restrE e (readsOf ops o)) ⟨H.next, bif isW o then [] else H.objs⟩ o fun v H' => bif Nat.beq H'.next H.next then evDraw C cal lo sz ops rest (putE o v e) H k else none
        else evDraw C cal lo sz ops rest (putE o undef e) H k
    else none

/-- What is known of one operation of the canonical order. -/
def StepOk (C : Cx) (lo : Nat) (ops : Array Oper) (o : Oper) (er : Env) (H : AH) (v : Value) (H1 : AH) : Prop :=
  (wantE ops o er = some false ∧ v = undef ∧ H1 = H) ∨
  (wantE ops o er = some true ∧ isM o = true ∧ H1.next = H.next ∧ ∀ {ρ : Map} {w : World} {a : Act}, Inv ρ H w → lo ≤ H.next → EnvRel ρ er a.tmps → OpWp C.P lo o a ρ H w v H1) ∨
  (wantE ops o er = some true ∧ isM o = false ∧ H1 = H ∧ ∃ H2 : AH, H2.next = H.next ∧ ∀ {ρ : Map} {w : World} {a : Act}, Inv ρ ⟨H.next, bif isW o then [] else H.objs⟩ w → EnvRel ρ er a.tmps →
    OpWp C.P H.next o a ρ ⟨H.next, bif isW o then [] else H.objs⟩ w v H2)

theorem evDraw_trace {R : Type} {C : Cx} {cal : Cal R} (hC : C.Ok) (hcal : CalOk C.P cal) {lo sz : Nat} {ops : Array Oper} : ∀ {rest : List Oper} {e : Env} {H : AH} {k : Env → AH → Option R} {r : R},
    evDraw C cal lo sz ops rest e H k = some r → ∃ (vals : Nat → Value) (heaps : Nat → AH) (envs : Nat → Env), heaps 0 = H ∧ envs 0 = e ∧ k (envs rest.length) (heaps rest.length) = some r ∧
      ∀ (j : Nat) o, rest[j]? = some o → dstOk sz o = true ∧ StepOk C lo ops o (restrE (envs j) (readsOf ops o)) (heaps j) (vals j) (heaps (j + 1)) ∧ envs (j + 1) = putE o (vals j) (envs j)
  | [], e, H, k, r, h => ⟨fun _ => undef, fun _ => H, fun _ => e, rfl, rfl, h, fun j o hj => by simp at hj⟩
  | o :: rest, e, H, k, r, h => by
    unfold evDraw at h
    have fin : ∀ (v : Value) (H1 : AH), dstOk sz o = true → StepOk C lo ops o (restrE e (readsOf ops o)) H v H1 → evDraw C cal lo sz ops rest (putE o v e) H1 k = some r →
        ∃ (vals : Nat → Value) (heaps : Nat → AH) (envs : Nat → Env), heaps 0 = H ∧ envs 0 = e ∧ k (envs (o :: rest).length) (heaps (o :: rest).length) = some r ∧
          ∀ (j : Nat) o', (o :: rest)[j]? = some o' → dstOk sz o' = true ∧ StepOk C lo ops o' (restrE (envs j) (readsOf ops o')) (heaps j) (vals j) (heaps (j + 1)) ∧ envs (j + 1) = putE o' (vals j) (envs j) := by
      intro v H1 hd hs hr
      obtain ⟨vals, heaps, envs, h1, h2, h3, h4⟩ := evDraw_trace hC hcal (rest := rest) hr
      refine ⟨fun | 0 => v | j + 1 => vals j, fun | 0 => H | j + 1 => heaps j, fun | 0 => e | j + 1 => envs j, rfl, rfl, h3, fun j o' hj => ?_⟩
      cases j with
      | zero =>
        simp only [List.getElem?_cons_zero, Option.some.injEq] at hj
        subst hj
        exact ⟨hd, by simp only [h1]; exact hs, h2⟩
      | succ j => exact h4 j o' (by simpa using hj)
    cases hd : dstOk sz o with
    | false => rw [hd] at h; cases h
    | true =>
      rw [hd] at h
      simp only [cond_true] at h
      obtain ⟨b, h1, h⟩ := bind_some' h
      cases b with
      | false =>
        simp only [cond_false] at h
        exact fin undef H hd (.inl ⟨h1, rfl, rfl⟩) h
      | true =>
        simp only [cond_true] at h
        cases hm : isM o with
        | true =>
          rw [hm] at h
          simp only [cond_true] at h
          obtain ⟨v, H1, g1, g2⟩ := evAny_sound hC hcal h
          cases hn : Nat.beq H1.next H.next with
          | false => rw [hn] at g1; cases g1
          | true =>
            rw [hn] at g1
            exact fin v H1 hd (.inr (.inl ⟨h1, hm, Nat.eq_of_beq_eq_true hn, g2⟩)) g1
        | false =>
          rw [hm] at h
          simp only [cond_false] at h
          obtain ⟨v, H1, g1, g2⟩ := evAny_sound hC hcal h
          cases hn : Nat.beq H1.next H.next with
          | false => rw [hn] at g1; cases g1
          | true =>
            rw [hn] at g1
            exact fin v H hd (.inr (.inr ⟨h1, hm, rfl, H1, Nat.eq_of_beq_eq_true hn, fun {ρ w a} hi he => g2 hi (Nat.le_refl _) he⟩)) g1

end Go.Vm
namespace Go.Vm
set_option linter.unusedVariables false
set_option linter.unusedSimpArgs false

theorem pairsOk_spec {ops : Array Oper} : ∀ {l : List (Oper × Nat)}, pairsOk ops l = true →
    (∀ (p : Nat) x, l[p]? = some x → ∀ e ∈ x.1.after.toList, Region.binds .any e = true → e.on < x.2) ∧
    (∀ (p q : Nat) x y, p < q → l[p]? = some x → l[q]? = some y → pairOk ops x.2 x.1 y.2 y.1 = true)
  | [], _ => ⟨fun p x h => by simp at h, fun p q x y _ h => by simp at h⟩
  | (o, i) :: r, h => by
    unfold pairsOk at h
    simp only [Bool.and_eq_true, List.all_eq_true] at h
    obtain ⟨⟨h1, h2⟩, h3⟩ := h
    obtain ⟨g1, g2⟩ := pairsOk_spec h3
    refine ⟨fun p x hx => ?_, fun p q x y hpq hx hy => ?_⟩
    · cases p with
      | zero =>
        simp only [List.getElem?_cons_zero, Option.some.injEq] at hx
        subst hx
        intro e he hb
        have := h1 e he
        simpa [hb] using this
      | succ p => exact g1 p x (by simpa using hx)
    · cases q with
      | zero => omega
      | succ q =>
        cases p with
        | zero =>
          simp only [List.getElem?_cons_zero, Option.some.injEq] at hx
          subst hx
          exact h2 y (List.mem_of_getElem? (by simpa using hy))
        | succ p => exact g2 p q x y (by omega) (by simpa using hx) (by simpa using hy)

theorem drawOk_spec {ops : Array Oper} (h : drawOk ops = true) :
    (∀ (i : Nat) o, ops[i]? = some o → ∀ e ∈ o.after, Region.binds .any e = true → e.on < i) ∧
    (∀ (i j : Nat) oi oj, i < j → ops[i]? = some oi → ops[j]? = some oj → pairOk ops i oi j oj = true) := by
  obtain ⟨h1, h2⟩ := pairsOk_spec h
  have hz : ∀ (i : Nat) o, ops[i]? = some o → ops.toList.zipIdx[i]? = some (o, i) := fun i o hi => by
    rw [List.getElem?_zipIdx, Array.getElem?_toList, hi]
    simp
  exact ⟨fun i o hi e he => h1 i _ (hz i o hi) e (by simpa using he), fun i j oi oj hij hi hj => h2 i j _ _ hij (hz i oi hi) (hz j oj hj)⟩

theorem dep_spec {o : Oper} {j : Nat} (h : dep o j = true) : ∃ e ∈ o.after, Region.binds .any e = true ∧ e.on = j := by
  unfold dep at h
  obtain ⟨e, h1, h2⟩ := List.any_eq_true.1 h
  simp only [Bool.and_eq_true, Nat.beq_eq] at h2
  exact ⟨e, by simpa using h1, h2.1, h2.2⟩

section
variable {C : Cx} {lo sz : Nat} {ops : Array Oper} {vals : Nat → Value} {heaps : Nat → AH} {envs : Nat → Env}

def TraceOk (C : Cx) (lo sz : Nat) (ops : Array Oper) (vals : Nat → Value) (heaps : Nat → AH) (envs : Nat → Env) : Prop :=
  ∀ (j : Nat) o, ops[j]? = some o → dstOk sz o = true ∧ StepOk C lo ops o (restrE (envs j) (readsOf ops o)) (heaps j) (vals j) (heaps (j + 1)) ∧ envs (j + 1) = putE o (vals j) (envs j)

theorem trace_next (ht : TraceOk C lo sz ops vals heaps envs) : ∀ j, j ≤ ops.size → (heaps j).next = (heaps 0).next
  | 0, _ => rfl
  | j + 1, hj => by
    have ih := trace_next ht j (by omega)
    obtain ⟨_, hs, _⟩ := ht j ops[j] (by simp)
    rcases hs with ⟨_, _, h⟩ | ⟨_, _, h, _⟩ | ⟨_, _, h, _⟩
    · rw [h, ih]
    · rw [h, ih]
    · rw [h, ih]

theorem trace_same (ht : TraceOk C lo sz ops vals heaps envs) : ∀ a d, a + d ≤ ops.size → (∀ (j : Nat) o, a ≤ j → j < a + d → ops[j]? = some o → isM o = false) → heaps (a + d) = heaps a
  | a, 0, _, _ => rfl
  | a, d + 1, hd, hn => by
    have ih := trace_same ht a d (by omega) fun j o h1 h2 => hn j o h1 (by omega)
    have hj : a + d < ops.size := by omega
    obtain ⟨_, hs, _⟩ := ht (a + d) ops[a + d] (by simp [hj])
    have hm := hn (a + d) ops[a + d] (by omega) (by omega) (by simp [hj])
    rw [← ih]
    rcases hs with ⟨_, _, h⟩ | ⟨_, h', _⟩ | ⟨_, _, h, _⟩
    · exact h
    · rw [hm] at h'; cases h'
    · exact h

theorem trace_env (ht : TraceOk C lo sz ops vals heaps envs) (t : Tmp) : ∀ i, i ≤ ops.size →
    (∃ j o, j < i ∧ ops[j]? = some o ∧ o.dst = some t ∧ getE t (envs i) = some (vals j)) ∨ ((∀ (j : Nat) o, j < i → ops[j]? = some o → o.dst ≠ some t) ∧ getE t (envs i) = getE t (envs 0))
  | 0, _ => .inr ⟨fun j o h => by omega, rfl⟩
  | i + 1, hi => by
    have hlt : i < ops.size := by omega
    obtain ⟨_, _, he⟩ := ht i ops[i] (by simp [hlt])
    have ih := trace_env ht t i (by omega)
    rw [he]
    unfold putE
    cases hd : (ops[i]).dst with
    | none =>
      simp only
      rcases ih with ⟨j, o, h1, h2, h3, h4⟩ | ⟨h1, h2⟩
      · exact .inl ⟨j, o, by omega, h2, h3, h4⟩
      · refine .inr ⟨fun j o hj ho => ?_, h2⟩
        by_cases hji : j = i
        · subst hji; simp [hlt] at ho; subst ho; rw [hd]; simp
        · exact h1 j o (by omega) ho
    | some d =>
      simp only [getE]
      cases hb : Nat.beq d t with
      | true =>
        have := Nat.eq_of_beq_eq_true hb
        subst this
        exact .inl ⟨i, ops[i], by omega, by simp [hlt], hd, rfl⟩
      | false =>
        have hne : d ≠ t := fun e => by subst e; simp at hb
        simp only [cond_false]
        rcases ih with ⟨j, o, h1, h2, h3, h4⟩ | ⟨h1, h2⟩
        · exact .inl ⟨j, o, by omega, h2, h3, h4⟩
        · refine .inr ⟨fun j o hj ho => ?_, h2⟩
          by_cases hji : j = i
          · subst hji; simp [hlt] at ho; subst ho; rw [hd]; simp [hne]
          · exact h1 j o (by omega) ho

/-- The state after some of the operations. -/
structure DS (lo sz : Nat) (ops : Array Oper) (vals : Nat → Value) (heaps : Nat → AH) (envs : Nat → Env) (ρ : Map) (w0 : World) (df : List Deferred) (listed : Array Bool) (a : Act) (w : World) : Prop where
  len : listed.size = ops.size
  cl : ∀ (i : Nat) o, ops[i]? = some o → listed.getD i true = true → ∀ e ∈ o.after, Region.binds .any e = true → listed.getD e.on false = true
  nx : ∃ p, p ≤ ops.size ∧ (∀ (i : Nat) o, ops[i]? = some o → isM o = true → (listed.getD i true = true ↔ i < p)) ∧ Next lo ρ (heaps 0) w0 ρ (heaps p) w
  envA : ∀ (i : Nat) o t, ops[i]? = some o → o.dst = some t → listed.getD i true = true → ∃ v', a.tmps[t]? = some v' ∧ VRel ρ (vals i) v'
  envB : ∀ t, (∀ (i : Nat) o, ops[i]? = some o → o.dst = some t → listed.getD i true = false) → ∀ u, getE t (envs 0) = some u → ∃ v', a.tmps[t]? = some v' ∧ VRel ρ u v'
  sz : a.tmps.size = sz
  df : a.defers = df

theorem set_getD {listed : Array Bool} {i j : Nat} (hi : i < listed.size) (d : Bool) : (listed.setIfInBounds i true).getD j d = if j = i then true else listed.getD j d := by
  by_cases h : j = i
  · subst h; simp [hi]
  · rw [getD_set_ne d (Ne.symm h), if_neg h]

/-- Slots behind one more operation. -/
theorem DS.put {ρ : Map} {w0 w w' : World} {df : List Deferred} {listed : Array Bool} {a : Act} (ht : TraceOk C lo sz ops vals heaps envs)
    (hok : ∀ (i j : Nat) oi oj, i < j → ops[i]? = some oi → ops[j]? = some oj → pairOk ops i oi j oj = true)
    (hd : DS lo sz ops vals heaps envs ρ w0 df listed a w) {i : Nat} {o : Oper} (ho : ops[i]? = some o) (hun : listed.getD i true = false)
    (hpre : ∀ e ∈ o.after, Region.binds .any e = true → listed.getD e.on false = true) {v' : Value} (hv : VRel ρ (vals i) v')
    (hnx : ∃ p, p ≤ ops.size ∧ (∀ (j : Nat) oj, ops[j]? = some oj → isM oj = true → ((listed.setIfInBounds i true).getD j true = true ↔ j < p)) ∧ Next lo ρ (heaps 0) w0 ρ (heaps p) w') :
    DS lo sz ops vals heaps envs ρ w0 df (listed.setIfInBounds i true) (a.put o.dst v') w' := by
  have hlt : i < listed.size := by rw [hd.len]; exact (Array.getElem?_eq_some_iff.1 ho).1
  have hdst := (ht i o ho).1
  refine
  { len := by simp [hd.len]
    cl := fun j oj hj hl e he hb => ?_
    nx := hnx
    envA := fun j oj t hj hdj hl => ?_
    envB := fun t hno u hu => ?_
    sz := by rw [put_size, hd.sz]
    df := by rw [put_defers, hd.df] }
  · rw [set_getD hlt] at hl
    rw [set_getD hlt]
    split
    · rfl
    · by_cases hji : j = i
      · subst hji; rw [ho] at hj; cases hj; exact hpre e he hb
      · rw [if_neg hji] at hl; exact hd.cl j oj hj hl e he hb
  · rw [set_getD hlt] at hl
    by_cases hji : j = i
    · subst hji
      rw [ho] at hj
      cases hj
      unfold dstOk at hdst
      rw [hdj] at hdst
      simp only [Nat.blt_eq] at hdst
      refine ⟨v', ?_, hv⟩
      have : t < a.tmps.size := by rw [hd.sz]; exact hdst
      simp [Act.put, hdj, this]
    · rw [if_neg hji] at hl
      obtain ⟨u', h1, h2⟩ := hd.envA j oj t hj hdj hl
      refine ⟨u', ?_, h2⟩
      cases hdo : o.dst with
      | none => exact h1
      | some d =>
        have hne : d ≠ t := fun e => by
          subst e
          rcases Nat.lt_or_gt_of_ne hji with h | h
          · have := hok j i oj o h hj ho
            simp [pairOk, hdj, hdo] at this
          · have := hok i j o oj h ho hj
            simp [pairOk, hdj, hdo] at this
        simp only [Act.put]
        rw [Array.getElem?_setIfInBounds_ne hne]
        exact h1
  · have hi := hno i o ho
    have hne : o.dst ≠ some t := fun e => by
      have := hi e
      rw [set_getD hlt, if_pos rfl] at this
      cases this
    obtain ⟨u', h1, h2⟩ := hd.envB t (fun j oj hj hdj => by
      have := hno j oj hj hdj
      rw [set_getD hlt] at this
      split at this
      · cases this
      · exact this) u hu
    refine ⟨u', ?_, h2⟩
    cases hdo : o.dst with
    | none => exact h1
    | some d =>
      have : d ≠ t := fun e => hne (by rw [hdo, e])
      simp only [Act.put]
      rw [Array.getElem?_setIfInBounds_ne this]
      exact h1

/-- What a ready operation reads is there. -/
theorem DS.reads {ρ : Map} {w0 w : World} {df : List Deferred} {listed : Array Bool} {a : Act} (ht : TraceOk C lo sz ops vals heaps envs)
    (hok : ∀ (i j : Nat) oi oj, i < j → ops[i]? = some oi → ops[j]? = some oj → pairOk ops i oi j oj = true)
    (hd : DS lo sz ops vals heaps envs ρ w0 df listed a w) {i : Nat} {o : Oper} (ho : ops[i]? = some o) (hun : listed.getD i true = false)
    (hpre : ∀ e ∈ o.after, Region.binds .any e = true → listed.getD e.on false = true) : EnvRel ρ (restrE (envs i) (readsOf ops o)) a.tmps := by
  intro t u hu
  obtain ⟨hmem, hget⟩ := getE_restr hu
  have hlt : i < ops.size := (Array.getElem?_eq_some_iff.1 ho).1
  have hin : (readsOf ops o).any (Nat.beq t) = true := List.any_eq_true.2 ⟨t, hmem, by simp⟩
  have later : ∀ (j : Nat) oj, i < j → ops[j]? = some oj → oj.dst = some t → listed.getD j true = false := fun j oj hij hj hdj => by
    have := hok i j o oj hij ho hj
    unfold pairOk at this
    rw [hdj] at this
    simp only [Bool.and_eq_true] at this
    have h2 := this.1.1.2
    rw [hin] at h2
    obtain ⟨e, he, hb, heq⟩ := dep_spec (by simpa using h2)
    cases hl : listed.getD j true with
    | false => rfl
    | true =>
      have := hd.cl j oj hj hl e he hb
      rw [heq] at this
      have h3 : listed.getD i true = true := by
        have hs : i < listed.size := by rw [hd.len]; exact hlt
        simp [hs] at this ⊢
        exact this
      rw [h3] at hun
      cases hun
  rcases trace_env ht t i (by omega) with ⟨j, oj, h1, h2, h3, h4⟩ | ⟨h1, h2⟩
  · rw [hget] at h4
    cases h4
    refine hd.envA j oj t h2 h3 ?_
    have := hok j i oj o h1 h2 ho
    unfold pairOk at this
    rw [h3] at this
    simp only [Bool.and_eq_true] at this
    have h2' := this.1.1.1.2
    rw [hin] at h2'
    obtain ⟨e, he, hb, heq⟩ := dep_spec (by simpa using h2')
    have := hpre e he hb
    rw [heq] at this
    have hs : j < listed.size := by rw [hd.len]; omega
    simp [hs] at this ⊢
    exact this
  · rw [h2] at hget
    refine hd.envB t (fun j oj hj hdj => ?_) u hget
    rcases Nat.lt_trichotomy j i with h | h | h
    · exact absurd hdj (h1 j oj h hj)
    · subst h; exact hun
    · exact later j oj h hj hdj

theorem Next.restrict {lo : Nat} {ρ ρ' : Map} {H H' : AH} {S : Objs} {w w' : World} (hi : Inv ρ H w) (hS : ∀ x, x ∈ S → x ∈ H.objs) (h : Next H.next ρ ⟨H.next, S⟩ w ρ' H' w') : Next lo ρ H w ρ H w' := by
  have hk : ∀ k o s, (k, o) ∈ H.objs → ρ k = some s → w'.heap[s.b]? = w.heap[s.b]? := fun k o s hm he => by
    obtain ⟨s', e1, e2⟩ := hi.rel.obj k o hm
    rw [e1] at he
    obtain rfl : s' = s := by simpa using he
    refine h.keep s'.b e2.lt fun k' o' s'' hl hm' => ?_
    exact absurd (hi.wf k' o' (hS _ hm')) (by omega)
  exact
  { inv := ⟨hi.dom, hi.wf, hi.one, ⟨fun k o hm => let ⟨s, h1, h2⟩ := hi.rel.obj k o hm; ⟨s, h1, h2.heap (hk k o s hm h1)⟩, hi.rel.inj⟩⟩
    same := fun _ _ => rfl
    nx := Nat.le_refl _
    size := h.size
    os := h.os
    tape := h.tape
    output := h.output
    keep := fun b hb _ => h.keep b hb fun k o s hk hm => absurd (hi.wf k o (hS _ hm)) (by omega)
    own := fun k o s hk hm he => .inr ⟨k, o, s, hk, hm, he, rfl⟩
    old := fun _ _ _ => Iff.rfl }

theorem map_eq {ρ ρ' : Map} {H H' : AH} {w' : World} {w : World} {n : Nat} (hi : ∀ k, n ≤ k → ρ k = none) (hs : ∀ k, k < n → ρ' k = ρ k) (hd : ∀ k, n ≤ k → ρ' k = none) : ρ' = ρ := by
  funext k
  rcases Nat.lt_or_ge k n with h | h
  · exact hs k h
  · rw [hi k h, hd k h]

theorem isM_isW {o : Oper} (h : isM o = true) : isW o = false := by
  obtain ⟨dst, op, ty, pos, after, guard⟩ := o
  cases op with
  | call c =>
    obtain ⟨cl, as, ts⟩ := c
    cases cl with
    | builtin b => cases b <;> simp_all [isM, isW]
    | _ => simp_all [isM, isW]
  | _ => simp_all [isM, isW]

theorem wpAny_draw (hdraw : drawOk ops = true) (ht : TraceOk C lo sz ops vals heaps envs) {ρ : Map} {w0 : World} {df : List Deferred} (hi : Inv ρ (heaps 0) w0) (hlo : lo ≤ (heaps 0).next)
    {Q : Exit → Act → World → Prop}
    (hQ : ∀ a' w', Next lo ρ (heaps 0) w0 ρ (heaps ops.size) w' → EnvRel ρ (envs ops.size) a'.tmps → a'.tmps.size = sz → a'.defers = df → Q .normal a' w') :
    ∀ (fuel : Nat) (listed : Array Bool) (a : Act) (w : World) (S : List Nat), DS lo sz ops vals heaps envs ρ w0 df listed a w → S.length ≤ fuel → (∀ i, i < ops.size → listed.getD i true = false → i ∈ S) →
      wpAny C.P .any ops Q fuel listed a w := by
  obtain ⟨hedge, hok⟩ := drawOk_spec hdraw
  have fin : ∀ (listed : Array Bool) (a : Act) (w : World), DS lo sz ops vals heaps envs ρ w0 df listed a w → (∀ i, i < ops.size → listed.getD i true = true) → Q .normal a w := by
    intro listed a w hd hall
    obtain ⟨p, hp, hm, hn⟩ := hd.nx
    have hheap : heaps ops.size = heaps p := by
      have := trace_same ht p (ops.size - p) (by omega) fun j o h1 h2 ho => by
        cases hmo : isM o with
        | false => rfl
        | true =>
          have hj : j < ops.size := (Array.getElem?_eq_some_iff.1 ho).1
          have := (hm j o ho hmo).1 (hall j hj)
          omega
      rwa [show p + (ops.size - p) = ops.size by omega] at this
    refine hQ a w (by rw [hheap]; exact hn) (fun t u hu => ?_) hd.sz hd.df
    rcases trace_env ht t ops.size (Nat.le_refl _) with ⟨j, oj, h1, h2, h3, h4⟩ | ⟨h1, h2⟩
    · rw [hu] at h4
      cases h4
      exact hd.envA j oj t h2 h3 (hall j h1)
    · rw [h2] at hu
      exact hd.envB t (fun j oj hj hdj => absurd hdj (h1 j oj (Array.getElem?_eq_some_iff.1 hj).1 hj)) u hu
  have allOf : ∀ (listed : Array Bool) (a : Act) (w : World), DS lo sz ops vals heaps envs ρ w0 df listed a w → Region.ready .any ops listed = [] → ∀ i, i < ops.size → listed.getD i true = true := by
    intro listed a w hd hr i
    induction i using Nat.strongRecOn with
    | _ i ih =>
      intro hlt
      cases hl : listed.getD i true with
      | true => rfl
      | false =>
        have : i ∈ Region.ready .any ops listed := mem_ready.2 ⟨hl, ops[i], by simp [hlt], fun e he hb => by
          have hlt' := hedge i ops[i] (by simp [hlt]) e he hb
          have := ih e.on hlt' (by omega)
          have hs : e.on < listed.size := by rw [hd.len]; omega
          simp [hs] at this ⊢
          exact this⟩
        rw [hr] at this
        cases this
  intro fuel
  induction fuel with
  | zero =>
    intro listed a w S hd hS hun
    have : S = [] := List.length_eq_zero_iff.1 (by omega)
    subst this
    have hall : ∀ i, i < ops.size → listed.getD i true = true := fun i hi => by
      cases hl : listed.getD i true with
      | true => rfl
      | false => exact absurd (hun i hi hl) (by simp)
    refine ⟨?_, fin listed a w hd hall⟩
    cases hr : Region.ready .any ops listed with
    | nil => rfl
    | cons i r =>
      have hm : i ∈ Region.ready .any ops listed := by rw [hr]; simp
      obtain ⟨h1, o, ho, _⟩ := mem_ready.1 hm
      rw [hall i (Array.getElem?_eq_some_iff.1 ho).1] at h1
      cases h1
  | succ fuel ih =>
    intro listed a w S hd hS hun
    refine ⟨fun hr => fin listed a w hd (allOf listed a w hd hr), fun i hir => ?_⟩
    obtain ⟨hl, o, ho, hpre⟩ := mem_ready.1 hir
    have hlt : i < ops.size := (Array.getElem?_eq_some_iff.1 ho).1
    have hlt' : i < listed.size := by rw [hd.len]; exact hlt
    have hread := hd.reads ht hok ho hl hpre
    obtain ⟨hdst, hstep, _⟩ := ht i o ho
    have hnext : ∀ (a' : Act) (w' : World), DS lo sz ops vals heaps envs ρ w0 df (listed.setIfInBounds i true) a' w' → wpAny C.P .any ops Q fuel (listed.setIfInBounds i true) a' w' := by
      intro a' w' hd'
      have hiS := hun i hlt hl
      refine ih _ a' w' (S.erase i) hd' (by rw [List.length_erase_of_mem hiS]; omega) fun j hj hlj => ?_
      rw [set_getD hlt'] at hlj
      split at hlj
      · cases hlj
      · rename_i hne
        exact (List.mem_erase_of_ne hne).2 (hun j hj hlj)
    obtain ⟨p, hp, hmp, hnp⟩ := hd.nx
    have hnn := trace_next ht
    /- which canonical heap the present one is -/
    have heapAt : isW o = false → heaps p = heaps i := fun hw => by
      have key : ∀ (j : Nat) oj, ops[j]? = some oj → isM oj = true → j ≠ i → (listed.getD j true = true ↔ j < i) := fun j oj hj hm hne => by
        rcases Nat.lt_or_gt_of_ne hne with h | h
        · refine ⟨fun _ => h, fun _ => ?_⟩
          have := hok j i oj o h hj ho
          unfold pairOk at this
          simp only [Bool.and_eq_true] at this
          have h2 := this.1.2
          rw [hm, hw] at h2
          simp only [Bool.not_true, Bool.false_or, Bool.and_eq_true] at h2
          obtain ⟨e, he, hb, heq⟩ := dep_spec h2.2
          have := hpre e he hb
          rw [heq] at this
          have hs : j < listed.size := by rw [hd.len]; omega
          simp [hs] at this ⊢
          exact this
        · refine ⟨fun hlj => ?_, fun h' => by omega⟩
          have := hok i j o oj h ho hj
          unfold pairOk at this
          simp only [Bool.and_eq_true] at this
          have h2 := this.2
          rw [hm, hw] at h2
          simp only [Bool.not_true, Bool.false_or] at h2
          obtain ⟨e, he, hb, heq⟩ := dep_spec h2
          have := hd.cl j oj hj hlj e he hb
          rw [heq] at this
          simp [hlt'] at this hl
          rw [this] at hl
          cases hl
      rcases Nat.le_total p i with h | h
      · have := trace_same ht p (i - p) (by omega) fun j oj h1 h2 hj => by
          cases hm : isM oj with
          | false => rfl
          | true =>
            have e1 := hmp j oj hj hm
            have e2 := key j oj hj hm (by omega)
            have : j < p := e1.1 (e2.2 (by omega))
            omega
        rw [show p + (i - p) = i by omega] at this
        exact this.symm
      · have := trace_same ht i (p - i) (by omega) fun j oj h1 h2 hj => by
          cases hm : isM oj with
          | false => rfl
          | true =>
            have e1 := hmp j oj hj hm
            by_cases hji : j = i
            · subst hji
              rw [e1.2 (by omega)] at hl
              cases hl
            · have e2 := key j oj hj hm hji
              have : j < i := e2.1 (e1.2 (by omega))
              omega
        rw [show i + (p - i) = p by omega] at this
        exact this
    /- if it is no store: p stays -/
    have stay : isM o = false → ∀ w', Next lo ρ (heaps 0) w0 ρ (heaps p) w' →
        ∃ p, p ≤ ops.size ∧ (∀ (j : Nat) oj, ops[j]? = some oj → isM oj = true → ((listed.setIfInBounds i true).getD j true = true ↔ j < p)) ∧ Next lo ρ (heaps 0) w0 ρ (heaps p) w' := fun hm w' hn =>
      ⟨p, hp, fun j oj hj hmj => by
        rw [set_getD hlt']
        have hne : j ≠ i := fun e => by subst e; rw [ho] at hj; cases hj; rw [hm] at hmj; cases hmj
        rw [if_neg hne]
        exact hmp j oj hj hmj, hn⟩
    /- if it is one: p is behind it -/
    have go : isM o = true → ∀ w', Next lo ρ (heaps 0) w0 ρ (heaps (i + 1)) w' →
        ∃ p, p ≤ ops.size ∧ (∀ (j : Nat) oj, ops[j]? = some oj → isM oj = true → ((listed.setIfInBounds i true).getD j true = true ↔ j < p)) ∧ Next lo ρ (heaps 0) w0 ρ (heaps p) w' := fun hm w' hn => by
      have hw : isW o = false := isM_isW hm
      refine ⟨i + 1, by omega, fun j oj hj hmj => ?_, hn⟩
      rw [set_getD hlt']
      by_cases hji : j = i
      · subst hji; simp
      · rw [if_neg hji]
        rcases Nat.lt_or_gt_of_ne hji with h | h
        · refine ⟨fun _ => by omega, fun _ => ?_⟩
          have := hok j i oj o h hj ho
          unfold pairOk at this
          simp only [Bool.and_eq_true] at this
          have h2 := this.1.2
          rw [hmj, hw] at h2
          simp only [Bool.not_true, Bool.false_or, Bool.and_eq_true] at h2
          obtain ⟨e, he, hb, heq⟩ := dep_spec h2.2
          have := hpre e he hb
          rw [heq] at this
          have hs : j < listed.size := by rw [hd.len]; omega
          simp [hs] at this ⊢
          exact this
        · refine ⟨fun hlj => ?_, fun h' => by omega⟩
          have := hok i j o oj h ho hj
          unfold pairOk at this
          simp only [Bool.and_eq_true] at this
          have h2 := this.2
          rw [hmj, hw] at h2
          simp only [Bool.not_true, Bool.false_or] at h2
          obtain ⟨e, he, hb, heq⟩ := dep_spec h2
          have := hd.cl j oj hj hlj e he hb
          rw [heq] at this
          simp [hlt'] at this hl
          rw [this] at hl
          cases hl
    have hinv := hnp.inv
    unfold wpOp
    rw [ho]
    simp only
    rcases hstep with ⟨hwant, hv, hh⟩ | ⟨hwant, hm, hh, hop⟩ | ⟨hwant, hm, hh, H2, hH2, hop⟩
    · rw [if_neg (by rw [wantE_sound hwant hread]; exact Bool.false_ne_true)]
      refine hnext _ _ (hd.put ht hok ho hl hpre (by rw [hv]; exact .tuple .nil) ?_)
      cases hm : isM o with
      | false => exact stay hm w hnp
      | true =>
        refine go hm w ?_
        have hw : isW o = false := isM_isW hm
        rw [hh, ← heapAt hw]
        exact hnp
    · rw [if_pos (wantE_sound hwant hread)]
      have hw : isW o = false := isM_isW hm
      have hpi := heapAt hw
      rw [hpi] at hinv
      refine .inl (hop hinv (by rw [hnn i (by omega)]; exact hlo) hread _ Q fun ρ' w' v' n1 n2 => ?_)
      have hρ : ρ' = ρ := by
        refine map_eq (H := heaps i) (H' := heaps (i + 1)) (w := w) (w' := w') (n := (heaps i).next) hinv.dom n1.same fun k hk => n1.inv.dom k ?_
        rw [hh]; exact hk
      subst hρ
      exact hnext _ _ (hd.put ht hok ho hl hpre n2 (go hm w' (by rw [hpi] at hnp; exact hnp.trans n1)))
    · rw [if_pos (wantE_sound hwant hread)]
      have hnxi : (heaps i).next = (heaps p).next := by rw [hnn i (by omega), hnn p hp]
      have hsub : ∀ x, x ∈ (bif isW o then [] else (heaps i).objs) → x ∈ (heaps p).objs := fun x hx => by
        cases hw : isW o with
        | true => rw [hw] at hx; simp at hx
        | false => rw [hw] at hx; rw [heapAt hw]; exact hx
      have hinv' : Inv ρ ⟨(heaps i).next, bif isW o then [] else (heaps i).objs⟩ w :=
        ⟨fun k hk => hinv.dom k (by rw [← hnxi]; exact hk), fun k o' hm' => by rw [hnxi]; exact hinv.wf k o' (hsub _ hm'), fun k o' o'' h1 h2 => hinv.one k o' o'' (hsub _ h1) (hsub _ h2), hinv.rel.sub hsub⟩
      refine .inl (hop hinv' hread _ Q fun ρ' w' v' n1 n2 => ?_)
      have hρ : ρ' = ρ := by
        refine map_eq (H := heaps i) (H' := H2) (w := w) (w' := w') (n := (heaps i).next) hinv'.dom n1.same fun k hk => n1.inv.dom k ?_
        rw [hH2]; exact hk
      subst hρ
      have n3 : Next lo ρ' (heaps p) w ρ' (heaps p) w' := by
        rw [hnxi] at n1
        exact Next.restrict hinv hsub n1
      exact hnext _ _ (hd.put ht hok ho hl hpre n2 (stay hm w' (hnp.trans n3)))

end

end Go.Vm
