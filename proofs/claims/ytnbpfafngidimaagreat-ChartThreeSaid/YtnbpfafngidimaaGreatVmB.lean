/- Steps of the abstract memory stand for steps of the machine's memory; no conditions. -/
import Derived.Test.YtnbpfafngidimaaGreatVmA
namespace Go.Vm
set_option linter.unusedVariables false
set_option linter.unusedSimpArgs false

theorem beq_ne {s t : Nat} (h : s ≠ t) : Nat.beq s t = false := by
  cases hb : Nat.beq s t with
  | true => exact absurd (Nat.eq_of_beq_eq_true hb) h
  | false => rfl

/-! ### What the concrete memory holds of an abstract object -/
inductive MRels (ρ : Map) (kk : IntKind) : List (Int × Value) → List MapEntry → Prop
  | nil : MRels ρ kk [] []
  | cons {n : Int} {v v' : Value} {b : Nat} {es : List (Int × Value)} {es' : List MapEntry} (h : VRel ρ v v') (hs : MRels ρ kk es es') :
      MRels ρ kk ((n, v) :: es) ({ key := .int kk n, val := v', born := b } :: es')

theorem MRels.mono {ρ ρ' : Map} {kk : IntKind} (hρ : ∀ k p, ρ k = some p → ρ' k = some p) : ∀ {es es'}, MRels ρ kk es es' → MRels ρ' kk es es'
  | _, _, .nil => .nil
  | _, _, .cons h hs => .cons (h.mono hρ) (hs.mono hρ)

def OHas (ρ : Map) (o : AObj) (s : Spot) (w : World) : Prop :=
  match o with
  | .cells cs sz => ∃ (arr : Array Value) (ty : TypeId) (cs' : List Value), w.heap[s.b]? = some (.cells arr ty (0, 0)) ∧ VRels ρ cs cs' ∧ (∀ (i : Nat) v, cs'[i]? = some v → arr[s.d + i]? = some v) ∧ s.d + cs.length + s.x * sz ≤ arr.size
  | .map kk es => ∃ (arr : Array MapEntry) (clock : Nat), w.heap[s.b]? = some (.map arr clock) ∧ MRels ρ kk es arr.toList

theorem OHas.mono {ρ ρ' : Map} (hρ : ∀ k p, ρ k = some p → ρ' k = some p) {o : AObj} {s : Spot} {w : World} (h : OHas ρ o s w) : OHas ρ' o s w := by
  cases o with
  | cells cs => obtain ⟨arr, ty, cs', h1, h2, h3⟩ := h; exact ⟨arr, ty, cs', h1, h2.mono hρ, h3⟩
  | map kk es => obtain ⟨arr, cl, h1, h2⟩ := h; exact ⟨arr, cl, h1, h2.mono hρ⟩

theorem OHas.heap {ρ : Map} {o : AObj} {s : Spot} {w w' : World} (e : w'.heap[s.b]? = w.heap[s.b]?) (h : OHas ρ o s w) : OHas ρ o s w' := by
  cases o with
  | cells cs => obtain ⟨arr, ty, cs', h1, h2, h3⟩ := h; exact ⟨arr, ty, cs', e.trans h1, h2, h3⟩
  | map kk es => obtain ⟨arr, cl, h1, h2⟩ := h; exact ⟨arr, cl, e.trans h1, h2⟩

theorem OHas.lt {ρ : Map} {o : AObj} {s : Spot} {w : World} (h : OHas ρ o s w) : s.b < w.heap.size := by
  have : (w.heap[s.b]?).isSome = true := by
    cases o with
    | cells cs => obtain ⟨arr, ty, cs', h1, _⟩ := h; simp [h1]
    | map kk es => obtain ⟨arr, cl, h1, _⟩ := h; simp [h1]
  rcases Nat.lt_or_ge s.b w.heap.size with h' | h'
  · exact h'
  · simp [Array.getElem?_eq_none h'] at this

structure HRel (ρ : Map) (S : Objs) (w : World) : Prop where
  obj : ∀ k o, (k, o) ∈ S → ∃ s, ρ k = some s ∧ OHas ρ o s w
  inj : ∀ k o k' o' s s', (k, o) ∈ S → (k', o') ∈ S → ρ k = some s → ρ k' = some s' → s.b = s'.b → k = k'

theorem HRel.sub {ρ : Map} {S T : Objs} {w : World} (h : HRel ρ S w) (hs : ∀ x, x ∈ T → x ∈ S) : HRel ρ T w :=
  ⟨fun k o hm => h.obj k o (hs _ hm), fun k o k' o' b d h1 h2 => h.inj k o k' o' b d (hs _ h1) (hs _ h2)⟩

structure Inv (ρ : Map) (H : AH) (w : World) : Prop where
  dom : ∀ k, H.next ≤ k → ρ k = none
  wf : ∀ k o, (k, o) ∈ H.objs → k < H.next
  one : ∀ k o o', (k, o) ∈ H.objs → (k, o') ∈ H.objs → o = o'
  rel : HRel ρ H.objs w

theorem Inv.lt {ρ : Map} {H : AH} {w : World} (h : Inv ρ H w) {k : Nat} {p : Spot} (hk : ρ k = some p) : k < H.next := by
  rcases Nat.lt_or_ge k H.next with h' | h'
  · exact h'
  · rw [h.dom k h'] at hk; cases hk

/-- From (ρ, H, w) to (ρ', H', w'): abstract blocks below 'lo' stand, and so does every concrete block that is not one of the others'. -/
structure Next (lo : Nat) (ρ : Map) (H : AH) (w : World) (ρ' : Map) (H' : AH) (w' : World) : Prop where
  inv : Inv ρ' H' w'
  same : ∀ k, k < H.next → ρ' k = ρ k
  nx : H.next ≤ H'.next
  size : w.heap.size ≤ w'.heap.size
  os : w'.os = w.os
  tape : w'.tape = w.tape
  output : w'.output = w.output
  keep : ∀ b, b < w.heap.size → (∀ k o s, lo ≤ k → (k, o) ∈ H.objs → ρ k = some s → s.b ≠ b) → w'.heap[b]? = w.heap[b]?
  own : ∀ k o s, lo ≤ k → (k, o) ∈ H'.objs → ρ' k = some s → w.heap.size ≤ s.b ∨ ∃ k' o' s', lo ≤ k' ∧ (k', o') ∈ H.objs ∧ ρ k' = some s' ∧ s'.b = s.b
  old : ∀ k o, k < lo → ((k, o) ∈ H'.objs ↔ (k, o) ∈ H.objs)

section
variable {lo : Nat} {ρ ρ' ρ'' : Map} {H H' H'' : AH} {w w' w'' : World}

theorem Next.ext (h : Next lo ρ H w ρ' H' w') (hi : Inv ρ H w) : ∀ k p, ρ k = some p → ρ' k = some p := fun k p hk => by
  rw [h.same k (hi.lt hk)]; exact hk

theorem Next.refl (hi : Inv ρ H w) : Next lo ρ H w ρ H w :=
  ⟨hi, fun _ _ => rfl, Nat.le_refl _, Nat.le_refl _, rfl, rfl, rfl, fun _ _ _ => rfl, fun k o s h1 h2 h3 => .inr ⟨k, o, s, h1, h2, h3, rfl⟩, fun _ _ _ => Iff.rfl⟩

theorem Next.trans (h : Next lo ρ H w ρ' H' w') (g : Next lo ρ' H' w' ρ'' H'' w'') : Next lo ρ H w ρ'' H'' w'' where
  inv := g.inv
  same k hk := (g.same k (Nat.lt_of_lt_of_le hk h.nx)).trans (h.same k hk)
  nx := Nat.le_trans h.nx g.nx
  size := Nat.le_trans h.size g.size
  os := g.os.trans h.os
  tape := g.tape.trans h.tape
  output := g.output.trans h.output
  keep b hb hn := by
    rw [← h.keep b hb hn]
    refine g.keep b (Nat.lt_of_lt_of_le hb h.size) fun k o s hk hm he e => ?_
    rcases h.own k o s hk hm he with h1 | ⟨k', o', s', h1, h2, h3, h4⟩
    · omega
    · exact hn k' o' s' h1 h2 h3 (h4.trans e)
  own k o s hk hm he := by
    rcases g.own k o s hk hm he with h1 | ⟨k', o', s', h1, h2, h3, h4⟩
    · exact .inl (Nat.le_trans h.size h1)
    · rcases h.own k' o' s' h1 h2 h3 with h5 | ⟨k2, o2, s2, g1, g2, g3, g4⟩
      · exact .inl (h4 ▸ h5)
      · exact .inr ⟨k2, o2, s2, g1, g2, g3, g4.trans h4⟩
  old k o hk := (g.old k o hk).trans (h.old k o hk)

/-- A weaker wall. -/
theorem Next.weaken {lo' : Nat} (hl : lo' ≤ lo) (h : Next lo ρ H w ρ' H' w') (hi : Inv ρ H w) : Next lo' ρ H w ρ' H' w' :=
  { h with
    keep := fun b hb hn => h.keep b hb fun k o s hk => hn k o s (Nat.le_trans hl hk)
    own := fun k o s hk hm he => by
      rcases Nat.lt_or_ge k lo with h1 | h1
      · have hm' := (h.old k o h1).1 hm
        refine .inr ⟨k, o, s, hk, hm', ?_, rfl⟩
        rw [← h.same k (hi.wf k o hm')]; exact he
      · rcases h.own k o s h1 hm he with h2 | ⟨k', o', s', h2, h3, h4⟩
        · exact .inl h2
        · exact .inr ⟨k', o', s', Nat.le_trans hl h2, h3, h4⟩
    old := fun k o hk => h.old k o (Nat.lt_of_lt_of_le hk hl) }

theorem HRel.heap (h : HRel ρ H.objs w) (e : ∀ b : Nat, w'.heap[b]? = w.heap[b]?) : HRel ρ H.objs w' :=
  ⟨fun k o hm => let ⟨s, h1, h2⟩ := h.obj k o hm; ⟨s, h1, h2.heap (e s.b)⟩, h.inj⟩

/-- A step that leaves the blocks alone (a draw). -/
theorem Next.draw (hi : Inv ρ H w) : Next lo ρ H w ρ H w.drew :=
  { Next.refl (lo := lo) hi with inv := ⟨hi.dom, hi.wf, hi.one, hi.rel.heap (w' := w.drew) fun _ => rfl⟩ }

/-- What a callee left behind is forgotten. -/
theorem Next.forget (hi : Inv ρ H w) (h : Next H.next ρ H w ρ' H' w') : Next lo ρ H w ρ H w' := by
  have hk : ∀ k o s, (k, o) ∈ H.objs → ρ k = some s → w'.heap[s.b]? = w.heap[s.b]? := fun k o s hm he => by
    obtain ⟨s', e1, e2⟩ := hi.rel.obj k o hm
    rw [e1] at he
    obtain rfl : s' = s := by simpa using he
    refine h.keep s'.b e2.lt fun k' o' s'' hl hm' => ?_
    exact absurd (hi.wf k' o' hm') (by omega)
  exact
  { inv := ⟨hi.dom, hi.wf, hi.one, ⟨fun k o hm => let ⟨s, h1, h2⟩ := hi.rel.obj k o hm; ⟨s, h1, h2.heap (hk k o s hm h1)⟩, hi.rel.inj⟩⟩
    same := fun _ _ => rfl
    nx := Nat.le_refl _
    size := h.size
    os := h.os
    tape := h.tape
    output := h.output
    keep := fun b hb _ => h.keep b hb fun k o s hk hm => absurd (hi.wf k o hm) (by omega)
    own := fun k o s hk hm he => .inr ⟨k, o, s, hk, hm, he, rfl⟩
    old := fun _ _ _ => Iff.rfl }

def upd (ρ : Map) (k : Nat) (p : Spot) : Map := fun j => bif Nat.beq j k then some p else ρ j

theorem upd_same (ρ : Map) (k : Nat) (p : Spot) : upd ρ k p k = some p := by simp [upd]
theorem upd_ne {ρ : Map} {k j : Nat} {p : Spot} (h : j ≠ k) : upd ρ k p j = ρ j := by
  have : Nat.beq j k = false := beq_ne h
  simp [upd, this]
theorem upd_ext (hi : Inv ρ H w) (p : Spot) : ∀ k q, ρ k = some q → upd ρ H.next p k = some q := fun k q hk => by
  rw [upd_ne (Nat.ne_of_lt (hi.lt hk))]; exact hk

def AH.push (H : AH) (o : AObj) : AH := ⟨H.next + 1, (H.next, o) :: H.objs⟩

/-- A new abstract block, in a new concrete one or in one whose abstract block is no more ('S': what is left of the old ones). -/
theorem Next.add (hi : Inv ρ H w) (hlo : lo ≤ H.next) (o : AObj) (p : Spot) (S : Objs) (hS : ∀ x, x ∈ S → x ∈ H.objs)
    (hkeep : ∀ k o, k < lo → (k, o) ∈ H.objs → (k, o) ∈ S)
    (hsz : w.heap.size ≤ w'.heap.size) (hos : w'.os = w.os) (htape : w'.tape = w.tape) (hout : w'.output = w.output)
    (hheap : ∀ b : Nat, b < w.heap.size → b ≠ p.b → w'.heap[b]? = w.heap[b]?)
    (hown : w.heap.size ≤ p.b ∨ ∃ k' o' s', lo ≤ k' ∧ (k', o') ∈ H.objs ∧ ρ k' = some s' ∧ s'.b = p.b)
    (hfree : ∀ k o s, (k, o) ∈ S → ρ k = some s → s.b ≠ p.b)
    (ho : OHas (upd ρ H.next p) o p w') :
    Next lo ρ H w (upd ρ H.next p) ⟨H.next + 1, (H.next, o) :: S⟩ w' := by
  have hext := upd_ext hi p
  refine
  { inv := ⟨fun k hk => ?_, fun k o' hm => ?_, fun k o' o'' h1 h2 => ?_, ⟨fun k o' hm => ?_, fun k o' k' o'' s s' h1 h2 h3 h4 h5 => ?_⟩⟩
    same := fun k hk => upd_ne (Nat.ne_of_lt hk)
    nx := Nat.le_succ _
    size := hsz
    os := hos
    tape := htape
    output := hout
    keep := fun b hb hn => hheap b hb fun e => ?_
    own := fun k o' s hk hm he => ?_
    old := fun k o' hk => ?_ }
  · simp only at hk
    rw [upd_ne (by omega)]
    exact hi.dom k (by omega)
  · simp only [List.mem_cons, Prod.mk.injEq] at hm ⊢
    rcases hm with ⟨rfl, _⟩ | hm
    · omega
    · have := hi.wf k o' (hS _ hm); omega
  · simp only [List.mem_cons, Prod.mk.injEq] at h1 h2
    rcases h1 with ⟨rfl, rfl⟩ | h1
    · rcases h2 with ⟨_, rfl⟩ | h2
      · rfl
      · exact absurd (hi.wf _ _ (hS _ h2)) (by omega)
    · rcases h2 with ⟨rfl, rfl⟩ | h2
      · exact absurd (hi.wf _ _ (hS _ h1)) (by omega)
      · exact hi.one k _ _ (hS _ h1) (hS _ h2)
  · simp only [List.mem_cons, Prod.mk.injEq] at hm
    rcases hm with ⟨rfl, rfl⟩ | hm
    · exact ⟨p, upd_same _ _ _, ho⟩
    · obtain ⟨s, h1, h2⟩ := hi.rel.obj k o' (hS _ hm)
      exact ⟨s, hext _ _ h1, (h2.mono hext).heap (hheap s.b h2.lt (hfree k o' s hm h1))⟩
  · simp only [List.mem_cons, Prod.mk.injEq] at h1 h2
    rcases h1 with ⟨rfl, rfl⟩ | h1
    · rcases h2 with ⟨rfl, _⟩ | h2
      · rfl
      · rw [upd_same] at h3
        rw [upd_ne (Nat.ne_of_lt (hi.wf k' o'' (hS _ h2)))] at h4
        cases h3
        exact absurd h5.symm (hfree k' o'' s' h2 h4)
    · rcases h2 with ⟨rfl, rfl⟩ | h2
      · rw [upd_same] at h4
        rw [upd_ne (Nat.ne_of_lt (hi.wf k o' (hS _ h1)))] at h3
        cases h4
        exact absurd h5 (hfree k o' s h1 h3)
      · rw [upd_ne (Nat.ne_of_lt (hi.wf k o' (hS _ h1)))] at h3
        rw [upd_ne (Nat.ne_of_lt (hi.wf k' o'' (hS _ h2)))] at h4
        exact hi.rel.inj k o' k' o'' s s' (hS _ h1) (hS _ h2) h3 h4 h5
  · subst e
    rcases hown with h | ⟨k', o', s', h1, h2, h3, h4⟩
    · omega
    · exact hn k' o' s' h1 h2 h3 h4
  · simp only [List.mem_cons, Prod.mk.injEq] at hm
    rcases hm with ⟨rfl, rfl⟩ | hm
    · rw [upd_same] at he
      cases he
      exact hown
    · rw [upd_ne (Nat.ne_of_lt (hi.wf k o' (hS _ hm)))] at he
      exact .inr ⟨k, o', s, hk, hS _ hm, he, rfl⟩
  · simp only [List.mem_cons, Prod.mk.injEq]
    constructor
    · rintro (⟨rfl, _⟩ | h)
      · omega
      · exact hS _ h
    · intro h; exact .inr (hkeep k o' hk h)

/-- A new block. -/
theorem Next.alloc (hi : Inv ρ H w) (hlo : lo ≤ H.next) (o : AObj) (ob : Obj) (x : Nat) (ho : OHas (upd ρ H.next ⟨w.heap.size, 0, x⟩) o ⟨w.heap.size, 0, x⟩ (w.alloc ob)) :
    Next lo ρ H w (upd ρ H.next ⟨w.heap.size, 0, x⟩) (H.push o) (w.alloc ob) := by
  refine Next.add hi hlo o ⟨w.heap.size, 0, x⟩ H.objs (fun _ h => h) (fun _ _ _ h => h) (by simp) rfl rfl rfl (fun b hb _ => ?_) (.inl (Nat.le_refl _)) (fun k o s hm he => ?_) ho
  · simp only [World.alloc, Array.getElem?_push]
    rw [if_neg (by omega)]
  · obtain ⟨s', e1, e2⟩ := hi.rel.obj k o hm
    rw [e1] at he
    cases he
    exact Nat.ne_of_lt e2.lt

def AH.put (H : AH) (k : Nat) (o : AObj) : AH := ⟨H.next, (k, o) :: drop k H.objs⟩

/-- A block of one's own is written. -/
theorem Next.write (hi : Inv ρ H w) {k : Nat} {o : AObj} (hm : (k, o) ∈ H.objs) (hlo : lo ≤ k) {s : Spot} (hb : ρ k = some s) (o' : AObj)
    (hsz : w'.heap.size = w.heap.size) (hos : w'.os = w.os) (htape : w'.tape = w.tape) (hout : w'.output = w.output)
    (hheap : ∀ b' : Nat, b' ≠ s.b → w'.heap[b']? = w.heap[b']?) (ho : OHas ρ o' s w') : Next lo ρ H w ρ (H.put k o') w' := by
  refine
  { inv := ⟨hi.dom, fun j u hu => ?_, fun j u u' h1 h2 => ?_, ⟨fun j u hu => ?_, fun j u j' u' s1 s1' h1 h2 h3 h4 h5 => ?_⟩⟩
    same := fun _ _ => rfl
    nx := Nat.le_refl _
    size := Nat.le_of_eq hsz.symm
    os := hos
    tape := htape
    output := hout
    keep := fun b' hb' hn => hheap b' fun e => hn k o s hlo hm hb e.symm
    own := fun j u s' hj hu he => ?_
    old := fun j u hj => ?_ }
  all_goals simp only [AH.put, List.mem_cons, Prod.mk.injEq, mem_drop] at *
  · rcases hu with ⟨rfl, _⟩ | hu
    · exact hi.wf _ _ hm
    · exact hi.wf _ _ hu.1
  · rcases h1 with ⟨rfl, rfl⟩ | h1
    · rcases h2 with ⟨_, rfl⟩ | h2
      · rfl
      · exact absurd rfl h2.2
    · rcases h2 with ⟨rfl, rfl⟩ | h2
      · exact absurd rfl h1.2
      · exact hi.one j _ _ h1.1 h2.1
  · rcases hu with ⟨rfl, rfl⟩ | hu
    · exact ⟨s, hb, ho⟩
    · obtain ⟨s1, e1, e2⟩ := hi.rel.obj j u hu.1
      exact ⟨s1, e1, e2.heap (hheap s1.b fun e => hu.2 (hi.rel.inj j u k o s1 s hu.1 hm e1 hb e))⟩
  · have hx : ∀ j u, ((j = k ∧ u = o') ∨ ((j, u) ∈ H.objs ∧ j ≠ k)) → ∃ u', (j, u') ∈ H.objs := fun j u h => by
      rcases h with ⟨rfl, _⟩ | h
      · exact ⟨o, hm⟩
      · exact ⟨u, h.1⟩
    obtain ⟨v1, g1⟩ := hx j u h1
    obtain ⟨v2, g2⟩ := hx j' u' h2
    exact hi.rel.inj j v1 j' v2 s1 s1' g1 g2 h3 h4 h5
  · rcases hu with ⟨rfl, _⟩ | hu
    · exact .inr ⟨j, o, s', hj, hm, he, rfl⟩
    · exact .inr ⟨j, u, s', hj, hu.1, he, rfl⟩
  · constructor
    · rintro (⟨rfl, _⟩ | h)
      · omega
      · exact h.1
    · intro h
      exact .inr ⟨h, by omega⟩

end

/-! ### The slots -/
abbrev Env := List (Nat × Value)

def getE (t : Nat) : Env → Option Value
  | [] => none
  | (s, v) :: r => bif Nat.beq s t then some v else getE t r

def dedup (seen : Nat) : Env → Env
  | [] => []
  | (s, v) :: r => bif Nat.testBit seen s then dedup seen r else (s, v) :: dedup (seen ||| (1 <<< s)) r

theorem getE_dedup (t : Nat) : ∀ (e : Env) (seen : Nat), Nat.testBit seen t = false → getE t (dedup seen e) = getE t e
  | [], _, _ => rfl
  | (s, v) :: r, seen, h => by
    unfold dedup
    cases hs : Nat.testBit seen s with
    | true =>
      have hne : s ≠ t := fun e => by subst e; rw [h] at hs; cases hs
      have hb : Nat.beq s t = false := beq_ne hne
      simp only [cond_true, getE, hb, cond_false]
      exact getE_dedup t r seen h
    | false =>
      simp only [cond_false, getE]
      cases hb : Nat.beq s t with
      | true => rfl
      | false =>
        have hne : s ≠ t := fun e => by subst e; simp at hb
        simp only [cond_false]
        refine getE_dedup t r _ ?_
        rw [Nat.testBit_or, h, Nat.one_shiftLeft, Nat.testBit_two_pow]
        simpa using hne

def EnvRel (ρ : Map) (e : Env) (tmps : Array Value) : Prop := ∀ t v, getE t e = some v → ∃ v', tmps[t]? = some v' ∧ VRel ρ v v'

theorem EnvRel.mono {ρ ρ' : Map} {e : Env} {tmps : Array Value} (hρ : ∀ k p, ρ k = some p → ρ' k = some p) (h : EnvRel ρ e tmps) : EnvRel ρ' e tmps := fun t v hv =>
  let ⟨v', h1, h2⟩ := h t v hv; ⟨v', h1, h2.mono hρ⟩

theorem EnvRel.dedup {ρ : Map} {e : Env} {tmps : Array Value} (h : EnvRel ρ e tmps) : EnvRel ρ (dedup 0 e) tmps := fun t v hv => by
  rw [getE_dedup t e 0 (by simp)] at hv; exact h t v hv

theorem EnvRel.put {ρ : Map} {e : Env} {tmps : Array Value} (h : EnvRel ρ e tmps) {d : Nat} (hd : d < tmps.size) {v v' : Value} (hv : VRel ρ v v') :
    EnvRel ρ ((d, v) :: e) (tmps.setIfInBounds d v') := fun t u hu => by
  unfold getE at hu
  cases hb : Nat.beq d t with
  | true =>
    have := Nat.eq_of_beq_eq_true hb
    subst this
    simp [hb] at hu
    subst hu
    exact ⟨v', by simp [hd], hv⟩
  | false =>
    have hne : d ≠ t := fun e => by subst e; simp at hb
    simp only [hb, cond_false] at hu
    obtain ⟨u', h1, h2⟩ := h t u hu
    exact ⟨u', by rw [Array.getElem?_setIfInBounds_ne hne]; exact h1, h2⟩

end Go.Vm
