/- Steps of the abstract memory stand for steps of the machine's memory; no conditions. Loads and stores of the abstract memory are right; no conditions. -/
import Derived.Test.YtnbpfafngidimaaGreatVmF2
import Derived.Test.YtnbpfafngidimaaGreatVmFF
namespace Go.Vm
set_option linter.unusedVariables false
set_option linter.unusedSectionVars false
set_option linter.unusedSimpArgs false

theorem beq_ne {s t : Nat} (h : s ≠ t) : Nat.beq s t = false := by
  cases hb : Nat.beq s t with
  | true => exact absurd (Nat.eq_of_beq_eq_true hb) h
  | false => rfl

/-! ### What the concrete memory holds of an abstract object -/
inductive MRels (ρ : Map) (kk : IntKind) : List (Int × Value) → List MapEntry → Prop
  | nil : MRels ρ kk [] []
  | cons {n : Int} {v v' : Value} {b : Nat} {es : List (Int × Value)} {es' : List MapEntry} (h : VRel ρ v v') (hs : MRels ρ kk es es') :
      MRels ρ kk ((n, v) :: es) ({ key := .int kk n, val := v', born := b } :: es')

theorem MRels.mono {ρ ρ' : Map} {kk : IntKind} (hρ : ∀ k p, ρ k = some p → ρ' k = some p) : ∀ {es es'}, MRels ρ kk es es' → MRels ρ' kk es es'
  | _, _, .nil => .nil
  | _, _, .cons h hs => .cons (h.mono hρ) (hs.mono hρ)

/-- cells that lie there; none of them is frozen -/
def Lies (w : World) (b : Nat) (arr : Array Value) (ty : TypeId) (d n : Nat) : Prop := (∃ fr : Nat × Nat, w.heap[b]? = some (.cells arr ty fr)) ∧ ∀ j, j < n → w.frozen? ⟨b, d + j, none⟩ = false
theorem Lies.fresh {w : World} {b : Nat} {arr : Array Value} {ty : TypeId} (h : w.heap[b]? = some (.cells arr ty (0, 0))) (d n : Nat) : Lies w b arr ty d n :=
  ⟨⟨_, h⟩, fun j _ => by simp [World.frozen?, h]⟩
theorem Lies.heap {w w' : World} {b : Nat} {arr : Array Value} {ty : TypeId} {d n : Nat} (e : w'.heap[b]? = w.heap[b]?) (h : Lies w b arr ty d n) : Lies w' b arr ty d n :=
  ⟨let ⟨fr, g⟩ := h.1; ⟨fr, e.trans g⟩, fun j hj => by
    have := h.2 j hj
    unfold World.frozen? at this ⊢
    simp only at this ⊢
    rw [e]
    exact this⟩
/-- what was written there freezes nothing -/
theorem Lies.put {w w' : World} {b : Nat} {arr arr' : Array Value} {ty : TypeId} {d n d' n' : Nat} {fr : Nat × Nat} (h : Lies w b arr ty d n) (e : w.heap[b]? = some (.cells arr ty fr)) (e' : w'.heap[b]? = some (.cells arr' ty fr)) (hd : d = d') (hn : n' ≤ n) : Lies w' b arr' ty d' n' :=
  ⟨⟨fr, e'⟩, fun j hj => by
    subst hd
    have := h.2 j (by omega)
    unfold World.frozen? at this ⊢
    simp only [e, e'] at this ⊢
    exact this⟩
def OHas (ρ : Map) (o : AObj) (s : Spot) (w : World) : Prop :=
  match o with
  | .cells cs sz => ∃ (arr : Array Value) (ty : TypeId) (cs' : List Value), Lies w s.b arr ty s.d (cs.length + s.x * sz) ∧ VRels ρ cs cs' ∧ (∀ (i : Nat) v, cs'[i]? = some v → arr[s.d + i]? = some v) ∧ s.d + cs.length + s.x * sz ≤ arr.size ∧ (sz = 0 → s.x = 0)
  | .map kk es => ∃ (arr : Array MapEntry) (clock : Nat), w.heap[s.b]? = some (.map arr clock) ∧ MRels ρ kk es arr.toList

theorem OHas.mono {ρ ρ' : Map} (hρ : ∀ k p, ρ k = some p → ρ' k = some p) {o : AObj} {s : Spot} {w : World} (h : OHas ρ o s w) : OHas ρ' o s w := by
  cases o with
  | cells cs => obtain ⟨arr, ty, cs', h1, h2, h3⟩ := h; exact ⟨arr, ty, cs', h1, h2.mono hρ, h3⟩
  | map kk es => obtain ⟨arr, cl, h1, h2⟩ := h; exact ⟨arr, cl, h1, h2.mono hρ⟩

theorem OHas.heap {ρ : Map} {o : AObj} {s : Spot} {w w' : World} (e : w'.heap[s.b]? = w.heap[s.b]?) (h : OHas ρ o s w) : OHas ρ o s w' := by
  cases o with
  | cells cs => obtain ⟨arr, ty, cs', h1, h2, h3⟩ := h; exact ⟨arr, ty, cs', h1.heap e, h2, h3⟩
  | map kk es => obtain ⟨arr, cl, h1, h2⟩ := h; exact ⟨arr, cl, e.trans h1, h2⟩

theorem OHas.lt {ρ : Map} {o : AObj} {s : Spot} {w : World} (h : OHas ρ o s w) : s.b < w.heap.size := by
  have : (w.heap[s.b]?).isSome = true := by
    cases o with
    | cells cs => obtain ⟨arr, ty, cs', ⟨⟨fr, h1⟩, _⟩, _⟩ := h; simp [h1]
    | map kk es => obtain ⟨arr, cl, h1, _⟩ := h; simp [h1]
  rcases Nat.lt_or_ge s.b w.heap.size with h' | h'
  · exact h'
  · simp [Array.getElem?_eq_none h'] at this

structure HRel (ρ : Map) (S : Objs) (w : World) : Prop where
  obj : ∀ k o, (k, o) ∈ S → ∃ s, ρ k = some s ∧ OHas ρ o s w
  inj : ∀ k o k' o' s s', (k, o) ∈ S → (k', o') ∈ S → ρ k = some s → ρ k' = some s' → s.b = s'.b → k = k'

theorem HRel.sub {ρ : Map} {S T : Objs} {w : World} (h : HRel ρ S w) (hs : ∀ x, x ∈ T → x ∈ S) : HRel ρ T w :=
  ⟨fun k o hm => h.obj k o (hs _ hm), fun k o k' o' b d h1 h2 => h.inj k o k' o' b d (hs _ h1) (hs _ h2)⟩

structure Inv (ρ : Map) (H : AH) (w : World) : Prop where
  dom : ∀ k, H.next ≤ k → ρ k = none
  wf : ∀ k o, (k, o) ∈ H.objs → k < H.next
  one : ∀ k o o', (k, o) ∈ H.objs → (k, o') ∈ H.objs → o = o'
  rel : HRel ρ H.objs w

theorem Inv.lt {ρ : Map} {H : AH} {w : World} (h : Inv ρ H w) {k : Nat} {p : Spot} (hk : ρ k = some p) : k < H.next := by
  rcases Nat.lt_or_ge k H.next with h' | h'
  · exact h'
  · rw [h.dom k h'] at hk; cases hk

/-- From (ρ, H, w) to (ρ', H', w'): abstract blocks below 'lo' stand, and so does every concrete block that is not one of the others'. -/
structure Next (lo : Nat) (ρ : Map) (H : AH) (w : World) (ρ' : Map) (H' : AH) (w' : World) : Prop where
  inv : Inv ρ' H' w'
  same : ∀ k, k < H.next → ρ' k = ρ k
  nx : H.next ≤ H'.next
  size : w.heap.size ≤ w'.heap.size
  os : w'.os = w.os
  tape : w'.tape = w.tape
  output : w'.output = w.output
  keep : ∀ b, b < w.heap.size → (∀ k o s, lo ≤ k → (k, o) ∈ H.objs → ρ k = some s → s.b ≠ b) → w'.heap[b]? = w.heap[b]?
  own : ∀ k o s, lo ≤ k → (k, o) ∈ H'.objs → ρ' k = some s → w.heap.size ≤ s.b ∨ ∃ k' o' s', lo ≤ k' ∧ (k', o') ∈ H.objs ∧ ρ k' = some s' ∧ s'.b = s.b
  old : ∀ k o, k < lo → ((k, o) ∈ H'.objs ↔ (k, o) ∈ H.objs)

section
variable {lo : Nat} {ρ ρ' ρ'' : Map} {H H' H'' : AH} {w w' w'' : World}

theorem Next.ext (h : Next lo ρ H w ρ' H' w') (hi : Inv ρ H w) : ∀ k p, ρ k = some p → ρ' k = some p := fun k p hk => by
  rw [h.same k (hi.lt hk)]; exact hk

theorem Next.refl (hi : Inv ρ H w) : Next lo ρ H w ρ H w :=
  ⟨hi, fun _ _ => rfl, Nat.le_refl _, Nat.le_refl _, rfl, rfl, rfl, fun _ _ _ => rfl, fun k o s h1 h2 h3 => .inr ⟨k, o, s, h1, h2, h3, rfl⟩, fun _ _ _ => Iff.rfl⟩

theorem Next.trans (h : Next lo ρ H w ρ' H' w') (g : Next lo ρ' H' w' ρ'' H'' w'') : Next lo ρ H w ρ'' H'' w'' where
  inv := g.inv
  same k hk := (g.same k (Nat.lt_of_lt_of_le hk h.nx)).trans (h.same k hk)
  nx := Nat.le_trans h.nx g.nx
  size := Nat.le_trans h.size g.size
  os := g.os.trans h.os
  tape := g.tape.trans h.tape
  output := g.output.trans h.output
  keep b hb hn := by
    rw [← h.keep b hb hn]
    refine g.keep b (Nat.lt_of_lt_of_le hb h.size) fun k o s hk hm he e => ?_
    rcases h.own k o s hk hm he with h1 | ⟨k', o', s', h1, h2, h3, h4⟩
    · omega
    · exact hn k' o' s' h1 h2 h3 (h4.trans e)
  own k o s hk hm he := by
    rcases g.own k o s hk hm he with h1 | ⟨k', o', s', h1, h2, h3, h4⟩
    · exact .inl (Nat.le_trans h.size h1)
    · rcases h.own k' o' s' h1 h2 h3 with h5 | ⟨k2, o2, s2, g1, g2, g3, g4⟩
      · exact .inl (h4 ▸ h5)
      · exact .inr ⟨k2, o2, s2, g1, g2, g3, g4.trans h4⟩
  old k o hk := (g.old k o hk).trans (h.old k o hk)

/-- A weaker wall. -/
theorem Next.weaken {lo' : Nat} (hl : lo' ≤ lo) (h : Next lo ρ H w ρ' H' w') (hi : Inv ρ H w) : Next lo' ρ H w ρ' H' w' :=
  { h with
    keep := fun b hb hn => h.keep b hb fun k o s hk => hn k o s (Nat.le_trans hl hk)
    own := fun k o s hk hm he => by
      rcases Nat.lt_or_ge k lo with h1 | h1
      · have hm' := (h.old k o h1).1 hm
        refine .inr ⟨k, o, s, hk, hm', ?_, rfl⟩
        rw [← h.same k (hi.wf k o hm')]; exact he
      · rcases h.own k o s h1 hm he with h2 | ⟨k', o', s', h2, h3, h4⟩
        · exact .inl h2
        · exact .inr ⟨k', o', s', Nat.le_trans hl h2, h3, h4⟩
    old := fun k o hk => h.old k o (Nat.lt_of_lt_of_le hk hl) }

theorem HRel.heap (h : HRel ρ H.objs w) (e : ∀ b : Nat, w'.heap[b]? = w.heap[b]?) : HRel ρ H.objs w' :=
  ⟨fun k o hm => let ⟨s, h1, h2⟩ := h.obj k o hm; ⟨s, h1, h2.heap (e s.b)⟩, h.inj⟩

/-- A step that leaves the blocks alone (a draw). -/
theorem Next.draw (hi : Inv ρ H w) : Next lo ρ H w ρ H w.drew :=
  { Next.refl (lo := lo) hi with inv := ⟨hi.dom, hi.wf, hi.one, hi.rel.heap (w' := w.drew) fun _ => rfl⟩ }

/-- What a callee left behind is forgotten. -/
theorem Next.forget (hi : Inv ρ H w) (h : Next H.next ρ H w ρ' H' w') : Next lo ρ H w ρ H w' := by
  have hk : ∀ k o s, (k, o) ∈ H.objs → ρ k = some s → w'.heap[s.b]? = w.heap[s.b]? := fun k o s hm he => by
    obtain ⟨s', e1, e2⟩ := hi.rel.obj k o hm
    rw [e1] at he
    obtain rfl : s' = s := by simpa using he
    refine h.keep s'.b e2.lt fun k' o' s'' hl hm' => ?_
    exact absurd (hi.wf k' o' hm') (by omega)
  exact
  { inv := ⟨hi.dom, hi.wf, hi.one, ⟨fun k o hm => let ⟨s, h1, h2⟩ := hi.rel.obj k o hm; ⟨s, h1, h2.heap (hk k o s hm h1)⟩, hi.rel.inj⟩⟩
    same := fun _ _ => rfl
    nx := Nat.le_refl _
    size := h.size
    os := h.os
    tape := h.tape
    output := h.output
    keep := fun b hb _ => h.keep b hb fun k o s hk hm => absurd (hi.wf k o hm) (by omega)
    own := fun k o s hk hm he => .inr ⟨k, o, s, hk, hm, he, rfl⟩
    old := fun _ _ _ => Iff.rfl }

def upd (ρ : Map) (k : Nat) (p : Spot) : Map := fun j => bif Nat.beq j k then some p else ρ j

theorem upd_same (ρ : Map) (k : Nat) (p : Spot) : upd ρ k p k = some p := by simp [upd]
theorem upd_ne {ρ : Map} {k j : Nat} {p : Spot} (h : j ≠ k) : upd ρ k p j = ρ j := by
  have : Nat.beq j k = false := beq_ne h
  simp [upd, this]
theorem upd_ext (hi : Inv ρ H w) (p : Spot) : ∀ k q, ρ k = some q → upd ρ H.next p k = some q := fun k q hk => by
  rw [upd_ne (Nat.ne_of_lt (hi.lt hk))]; exact hk

def AH.push (H : AH) (o : AObj) : AH := ⟨H.next + 1, (H.next, o) :: H.objs⟩

/-- A new abstract block, in a new concrete one or in one whose abstract block is no more ('S': what is left of the old ones). -/
theorem Next.add (hi : Inv ρ H w) (hlo : lo ≤ H.next) (o : AObj) (p : Spot) (S : Objs) (hS : ∀ x, x ∈ S → x ∈ H.objs)
    (hkeep : ∀ k o, k < lo → (k, o) ∈ H.objs → (k, o) ∈ S)
    (hsz : w.heap.size ≤ w'.heap.size) (hos : w'.os = w.os) (htape : w'.tape = w.tape) (hout : w'.output = w.output)
    (hheap : ∀ b : Nat, b < w.heap.size → b ≠ p.b → w'.heap[b]? = w.heap[b]?)
    (hown : w.heap.size ≤ p.b ∨ ∃ k' o' s', lo ≤ k' ∧ (k', o') ∈ H.objs ∧ ρ k' = some s' ∧ s'.b = p.b)
    (hfree : ∀ k o s, (k, o) ∈ S → ρ k = some s → s.b ≠ p.b)
    (ho : OHas (upd ρ H.next p) o p w') :
    Next lo ρ H w (upd ρ H.next p) ⟨H.next + 1, (H.next, o) :: S⟩ w' := by
  have hext := upd_ext hi p
  refine
  { inv := ⟨fun k hk => ?_, fun k o' hm => ?_, fun k o' o'' h1 h2 => ?_, ⟨fun k o' hm => ?_, fun k o' k' o'' s s' h1 h2 h3 h4 h5 => ?_⟩⟩
    same := fun k hk => upd_ne (Nat.ne_of_lt hk)
    nx := Nat.le_succ _
    size := hsz
    os := hos
    tape := htape
    output := hout
    keep := fun b hb hn => hheap b hb fun e => ?_
    own := fun k o' s hk hm he => ?_
    old := fun k o' hk => ?_ }
  · simp only at hk
    rw [upd_ne (by omega)]
    exact hi.dom k (by omega)
  · simp only [List.mem_cons, Prod.mk.injEq] at hm ⊢
    rcases hm with ⟨rfl, _⟩ | hm
    · omega
    · have := hi.wf k o' (hS _ hm); omega
  · simp only [List.mem_cons, Prod.mk.injEq] at h1 h2
    rcases h1 with ⟨rfl, rfl⟩ | h1
    · rcases h2 with ⟨_, rfl⟩ | h2
      · rfl
      · exact absurd (hi.wf _ _ (hS _ h2)) (by omega)
    · rcases h2 with ⟨rfl, rfl⟩ | h2
      · exact absurd (hi.wf _ _ (hS _ h1)) (by omega)
      · exact hi.one k _ _ (hS _ h1) (hS _ h2)
  · simp only [List.mem_cons, Prod.mk.injEq] at hm
    rcases hm with ⟨rfl, rfl⟩ | hm
    · exact ⟨p, upd_same _ _ _, ho⟩
    · obtain ⟨s, h1, h2⟩ := hi.rel.obj k o' (hS _ hm)
      exact ⟨s, hext _ _ h1, (h2.mono hext).heap (hheap s.b h2.lt (hfree k o' s hm h1))⟩
  · simp only [List.mem_cons, Prod.mk.injEq] at h1 h2
    rcases h1 with ⟨rfl, rfl⟩ | h1
    · rcases h2 with ⟨rfl, _⟩ | h2
      · rfl
      · rw [upd_same] at h3
        rw [upd_ne (Nat.ne_of_lt (hi.wf k' o'' (hS _ h2)))] at h4
        cases h3
        exact absurd h5.symm (hfree k' o'' s' h2 h4)
    · rcases h2 with ⟨rfl, rfl⟩ | h2
      · rw [upd_same] at h4
        rw [upd_ne (Nat.ne_of_lt (hi.wf k o' (hS _ h1)))] at h3
        cases h4
        exact absurd h5 (hfree k o' s h1 h3)
      · rw [upd_ne (Nat.ne_of_lt (hi.wf k o' (hS _ h1)))] at h3
        rw [upd_ne (Nat.ne_of_lt (hi.wf k' o'' (hS _ h2)))] at h4
        exact hi.rel.inj k o' k' o'' s s' (hS _ h1) (hS _ h2) h3 h4 h5
  · subst e
    rcases hown with h | ⟨k', o', s', h1, h2, h3, h4⟩
    · omega
    · exact hn k' o' s' h1 h2 h3 h4
  · simp only [List.mem_cons, Prod.mk.injEq] at hm
    rcases hm with ⟨rfl, rfl⟩ | hm
    · rw [upd_same] at he
      cases he
      exact hown
    · rw [upd_ne (Nat.ne_of_lt (hi.wf k o' (hS _ hm)))] at he
      exact .inr ⟨k, o', s, hk, hS _ hm, he, rfl⟩
  · simp only [List.mem_cons, Prod.mk.injEq]
    constructor
    · rintro (⟨rfl, _⟩ | h)
      · omega
      · exact hS _ h
    · intro h; exact .inr (hkeep k o' hk h)

/-- A new block. -/
theorem Next.alloc (hi : Inv ρ H w) (hlo : lo ≤ H.next) (o : AObj) (ob : Obj) (x : Nat) (ho : OHas (upd ρ H.next ⟨w.heap.size, 0, x⟩) o ⟨w.heap.size, 0, x⟩ (w.alloc ob)) :
    Next lo ρ H w (upd ρ H.next ⟨w.heap.size, 0, x⟩) (H.push o) (w.alloc ob) := by
  refine Next.add hi hlo o ⟨w.heap.size, 0, x⟩ H.objs (fun _ h => h) (fun _ _ _ h => h) (by simp) rfl rfl rfl (fun b hb _ => ?_) (.inl (Nat.le_refl _)) (fun k o s hm he => ?_) ho
  · simp only [World.alloc, Array.getElem?_push]
    rw [if_neg (by omega)]
  · obtain ⟨s', e1, e2⟩ := hi.rel.obj k o hm
    rw [e1] at he
    cases he
    exact Nat.ne_of_lt e2.lt

def AH.put (H : AH) (k : Nat) (o : AObj) : AH := ⟨H.next, (k, o) :: drop k H.objs⟩

/-- A block of one's own is written. -/
theorem Next.write (hi : Inv ρ H w) {k : Nat} {o : AObj} (hm : (k, o) ∈ H.objs) (hlo : lo ≤ k) {s : Spot} (hb : ρ k = some s) (o' : AObj)
    (hsz : w'.heap.size = w.heap.size) (hos : w'.os = w.os) (htape : w'.tape = w.tape) (hout : w'.output = w.output)
    (hheap : ∀ b' : Nat, b' ≠ s.b → w'.heap[b']? = w.heap[b']?) (ho : OHas ρ o' s w') : Next lo ρ H w ρ (H.put k o') w' := by
  refine
  { inv := ⟨hi.dom, fun j u hu => ?_, fun j u u' h1 h2 => ?_, ⟨fun j u hu => ?_, fun j u j' u' s1 s1' h1 h2 h3 h4 h5 => ?_⟩⟩
    same := fun _ _ => rfl
    nx := Nat.le_refl _
    size := Nat.le_of_eq hsz.symm
    os := hos
    tape := htape
    output := hout
    keep := fun b' hb' hn => hheap b' fun e => hn k o s hlo hm hb e.symm
    own := fun j u s' hj hu he => ?_
    old := fun j u hj => ?_ }
  all_goals simp only [AH.put, List.mem_cons, Prod.mk.injEq, mem_drop] at *
  · rcases hu with ⟨rfl, _⟩ | hu
    · exact hi.wf _ _ hm
    · exact hi.wf _ _ hu.1
  · rcases h1 with ⟨rfl, rfl⟩ | h1
    · rcases h2 with ⟨_, rfl⟩ | h2
      · rfl
      · exact absurd rfl h2.2
    · rcases h2 with ⟨rfl, rfl⟩ | h2
      · exact absurd rfl h1.2
      · exact hi.one j _ _ h1.1 h2.1
  · rcases hu with ⟨rfl, rfl⟩ | hu
    · exact ⟨s, hb, ho⟩
    · obtain ⟨s1, e1, e2⟩ := hi.rel.obj j u hu.1
      exact ⟨s1, e1, e2.heap (hheap s1.b fun e => hu.2 (hi.rel.inj j u k o s1 s hu.1 hm e1 hb e))⟩
  · have hx : ∀ j u, ((j = k ∧ u = o') ∨ ((j, u) ∈ H.objs ∧ j ≠ k)) → ∃ u', (j, u') ∈ H.objs := fun j u h => by
      rcases h with ⟨rfl, _⟩ | h
      · exact ⟨o, hm⟩
      · exact ⟨u, h.1⟩
    obtain ⟨v1, g1⟩ := hx j u h1
    obtain ⟨v2, g2⟩ := hx j' u' h2
    exact hi.rel.inj j v1 j' v2 s1 s1' g1 g2 h3 h4 h5
  · rcases hu with ⟨rfl, _⟩ | hu
    · exact .inr ⟨j, o, s', hj, hm, he, rfl⟩
    · exact .inr ⟨j, u, s', hj, hu.1, he, rfl⟩
  · constructor
    · rintro (⟨rfl, _⟩ | h)
      · omega
      · exact h.1
    · intro h
      exact .inr ⟨h, by omega⟩

end

/-! ### The slots -/
abbrev Env := List (Nat × Value)

def getE (t : Nat) : Env → Option Value
  | [] => none
  | (s, v) :: r => bif Nat.beq s t then some v else getE t r

def dedup (seen : Nat) : Env → Env
  | [] => []
  | (s, v) :: r => bif Nat.testBit seen s then dedup seen r else (s, v) :: dedup (seen ||| (1 <<< s)) r

theorem getE_dedup (t : Nat) : ∀ (e : Env) (seen : Nat), Nat.testBit seen t = false → getE t (dedup seen e) = getE t e
  | [], _, _ => rfl
  | (s, v) :: r, seen, h => by
    unfold dedup
    cases hs : Nat.testBit seen s with
    | true =>
      have hne : s ≠ t := fun e => by subst e; rw [h] at hs; cases hs
      have hb : Nat.beq s t = false := beq_ne hne
      simp only [cond_true, getE, hb, cond_false]
      exact getE_dedup t r seen h
    | false =>
      simp only [cond_false, getE]
      cases hb : Nat.beq s t with
      | true => rfl
      | false =>
        have hne : s ≠ t := fun e => by subst e; simp at hb
        simp only [cond_false]
        refine getE_dedup t r _ ?_
        rw [Nat.testBit_or, h, Nat.one_shiftLeft, Nat.testBit_two_pow]
        simpa using hne

def EnvRel (ρ : Map) (e : Env) (tmps : Array Value) : Prop := ∀ t v, getE t e = some v → ∃ v', tmps[t]? = some v' ∧ VRel ρ v v'

theorem EnvRel.mono {ρ ρ' : Map} {e : Env} {tmps : Array Value} (hρ : ∀ k p, ρ k = some p → ρ' k = some p) (h : EnvRel ρ e tmps) : EnvRel ρ' e tmps := fun t v hv =>
  let ⟨v', h1, h2⟩ := h t v hv; ⟨v', h1, h2.mono hρ⟩

theorem EnvRel.dedup {ρ : Map} {e : Env} {tmps : Array Value} (h : EnvRel ρ e tmps) : EnvRel ρ (dedup 0 e) tmps := fun t v hv => by
  rw [getE_dedup t e 0 (by simp)] at hv; exact h t v hv

theorem EnvRel.put {ρ : Map} {e : Env} {tmps : Array Value} (h : EnvRel ρ e tmps) {d : Nat} (hd : d < tmps.size) {v v' : Value} (hv : VRel ρ v v') :
    EnvRel ρ ((d, v) :: e) (tmps.setIfInBounds d v') := fun t u hu => by
  unfold getE at hu
  cases hb : Nat.beq d t with
  | true =>
    have := Nat.eq_of_beq_eq_true hb
    subst this
    simp [hb] at hu
    subst hu
    exact ⟨v', by simp [hd], hv⟩
  | false =>
    have hne : d ≠ t := fun e => by subst e; simp at hb
    simp only [hb, cond_false] at hu
    obtain ⟨u', h1, h2⟩ := h t u hu
    exact ⟨u', by rw [Array.getElem?_setIfInBounds_ne hne]; exact h1, h2⟩

end Go.Vm
namespace Go.Vm
set_option linter.unusedVariables false
set_option linter.unusedSimpArgs false

/-! ### Sem trees that look at nothing but the program -/
def calm {α : Type} (P : Program) : Sem α → Option α
  | .pure a => some a
  | .program k => calm P (k P)
  | .mark _ k => calm P k
  | _ => none

theorem calm_run {α : Type} {P : Program} : ∀ {s : Sem α} {x : α}, calm P s = some x → ∀ w, s.run P w = .ok x w
  | .pure a, x, h, w => by simp [calm] at h; subst h; rfl
  | .program k, x, h, w => calm_run (s := k P) h w
  | .mark m k, x, h, w => calm_run (s := k) h w
  | .load .., _, h, _ | .store .., _, h, _ | .new .., _, h, _ | .shape .., _, h, _ | .freeze .., _, h, _ | .frozen .., _, h, _
  | .getObj .., _, h, _ | .setObj .., _, h, _ | .choose .., _, h, _ | .sys .., _, h, _ | .halt .., _, h, _ => by simp [calm] at h

/-! ### Numbers brought to their literal -/
def forceI {R : Type} (n : Int) (k : Int → R) : R := match n with | .ofNat a => forceN a fun a => k (.ofNat a) | .negSucc a => forceN a fun a => k (.negSucc a)
theorem forceI_eq {R : Type} (n : Int) (k : Int → R) : forceI n k = k n := by cases n <;> simp [forceI, forceN_eq]
/-- how a whole number is brought to its literal: a real way, or a variable -/
abbrev Fi := ∀ R : Type, Int → (Int → Option R) → Option R
def Fi.Fair (fi : Fi) : Prop := ∀ (R : Type) (n : Int) (k : Int → Option R), fi R n k = k n
def fiReal : Fi := fun R n k => forceI n k
theorem fiReal_fair : Fi.Fair fiReal := fun R n k => forceI_eq n k
def forceB {R : Type} (b : Bool) (k : Bool → R) : R := match b with | true => k true | false => k false
theorem forceB_eq {R : Type} (b : Bool) (k : Bool → R) : forceB b k = k b := by cases b <;> rfl
def bindF {R : Type} (o : Option Nat) (k : Nat → Option R) : Option R := o.bind fun n => forceN n k
theorem bindF_some {R : Type} {o : Option Nat} {k : Nat → Option R} {r : R} (h : bindF o k = some r) : ∃ n, o = some n ∧ k n = some r := by
  cases o with
  | none => simp [bindF] at h
  | some n => exact ⟨n, rfl, by simpa [bindF, forceN_eq] using h⟩
theorem bind_some' {α R : Type} {o : Option α} {k : α → Option R} {r : R} (h : o.bind k = some r) : ∃ n, o = some n ∧ k n = some r := by
  cases o with
  | none => simp at h
  | some n => exact ⟨n, rfl, by simpa using h⟩

/-! ### Operands -/
def opd (e : Env) : Operand → Option Value
  | .tmp t => getE t e
  | .const v => bif flat v then some v else none
  | .global _ => none
  | .func f => some (.func (.func f) #[] #[])

theorem opd_rel {ρ : Map} {e : Env} {a : Act} (he : EnvRel ρ e a.tmps) {x : Operand} {v : Value} (h : opd e x = some v) : VRel ρ v (a.eval x) := by
  cases x with
  | tmp t =>
    obtain ⟨v', h1, h2⟩ := he t v h
    simp only [Act.eval, Array.getD_eq_getD_getElem?, h1, Option.getD_some]
    exact h2
  | const u =>
    simp only [opd] at h
    cases hf : flat u with
    | true => simp [hf] at h; subst h; exact VRel.ofFlat ρ hf
    | false => simp [hf] at h
  | global g => simp [opd] at h
  | func f => simp [opd] at h; subst h; exact .func _ .nil .nil

/-- What one operation does, told of the abstract and of the concrete state. -/
def Done (P : Program) (lo : Nat) (o : Oper) (a : Act) (ρ : Map) (H : AH) (w : World) (v : Value) (H' : AH) : Prop :=
  ∃ ρ' w' v' n, (execOp a.eval o).run P w = .ok n w' ∧ (n = .value v' ∨ (n = .skip ∧ v' = undef)) ∧ Next lo ρ H w ρ' H' w' ∧ VRel ρ' v v'

theorem Done.calm {P : Program} {lo : Nat} {o : Oper} {a : Act} {ρ : Map} {H : AH} {w : World} {v v' : Value} (hi : Inv ρ H w)
    (hr : (execOp a.eval o).run P w = .ok (.value v') w) (hv : VRel ρ v v') : Done P lo o a ρ H w v H :=
  ⟨ρ, w, v', _, hr, .inl rfl, Next.refl hi, hv⟩

/-! ### Lists of related values -/
theorem VRels.length {ρ : Map} : ∀ {v v' : List Value}, VRels ρ v v' → v'.length = v.length
  | _, _, .nil => rfl
  | _, _, .cons _ hs => by simp [hs.length]
theorem VRels.append {ρ : Map} : ∀ {a a' b b' : List Value}, VRels ρ a a' → VRels ρ b b' → VRels ρ (a ++ b) (a' ++ b')
  | _, _, _, _, .nil, h => h
  | _, _, _, _, .cons h hs, g => .cons h (hs.append g)
theorem VRels.drop {ρ : Map} : ∀ {a a' : List Value} (n : Nat), VRels ρ a a' → VRels ρ (a.drop n) (a'.drop n)
  | _, _, 0, h => h
  | _, _, n + 1, .nil => .nil
  | _, _, n + 1, .cons _ hs => by simpa using hs.drop n
theorem VRels.take {ρ : Map} : ∀ {a a' : List Value} (n : Nat), VRels ρ a a' → VRels ρ (a.take n) (a'.take n)
  | _, _, 0, _ => .nil
  | _, _, n + 1, .nil => .nil
  | _, _, n + 1, .cons h hs => by simpa using .cons h (hs.take n)
theorem VRels.get {ρ : Map} : ∀ {a a' : List Value} (n : Nat) {v : Value}, VRels ρ a a' → a[n]? = some v → ∃ v', a'[n]? = some v' ∧ VRel ρ v v'
  | _, _, _, _, .nil, h => by simp at h
  | _, _, 0, _, .cons h _, e => by simp at e; subst e; exact ⟨_, rfl, h⟩
  | _, _, n + 1, _, .cons _ hs, e => by simpa using hs.get n (by simpa using e)

theorem VRel.oneCell {ρ : Map} {v v' : Value} (h : VRel ρ v v') (h1 : v.oneCell' = true) : v'.oneCell' = true := by
  cases h <;> simp_all [Value.oneCell']

/-- The cells of a value. -/
theorem VRel.cells {ρ : Map} {v v' : Value} (h : VRel ρ v v') : VRels ρ v.cells.toList v'.cells.toList := by
  cases h with
  | agg h => simpa [Value.cells] using h
  | bool b => exact .cons (.bool b) .nil
  | int k n => exact .cons (.int k n) .nil
  | float n => exact .cons (.float n) .nil
  | nan n h => exact .cons (.nan n h) .nil
  | complex x y => exact .cons (.complex x y) .nil
  | cnan h g => exact .cons (.cnan h g) .nil
  | string s => exact .cons (.string s) .nil
  | nilPtr => exact .cons .nilPtr .nil
  | ptr h => exact .cons (.ptr h) .nil
  | nilSlice n c => exact .cons (.nilSlice n c) .nil
  | slice h => exact .cons (.slice h) .nil
  | nilMap => exact .cons .nilMap .nil
  | map h => exact .cons (.map h) .nil
  | nilFunc => exact .cons .nilFunc .nil
  | func f ha hb => exact .cons (.func f ha hb) .nil
  | nilIface => exact .cons .nilIface .nil
  | iface t h => exact .cons (.iface t h) .nil
  | tuple h => exact .cons (.tuple h) .nil

/-! ### Loads and stores -/
def isRowB (P : Program) (t : TypeId) : Bool :=
  match P.underlying t with
  | some (.struct _) => true
  | some (.array _ _) => true
  | _ => false

def loadE {R : Type} (P : Program) (t : TypeId) (cs : List Value) (off : Nat) (k : Value → Option R) : Option R :=
  bif isRowB P t then
    bif Nat.ble (off + P.cellsOf t) cs.length && !Nat.beq (P.cellsOf t) 0 then k (.agg ⟨(cs.drop off).take (P.cellsOf t)⟩) else none
  else bif (P.underlying t).isSome then (cs[off]?).bind k else none

theorem info_of_cells {P : Program} {t : TypeId} (h : P.cellsOf t ≠ 0) : (P.info? t).map (·.size) = some (P.cellsOf t) := by
  unfold Program.cellsOf at *
  cases hi : P.info? t with
  | none => simp [hi] at h
  | some i => simp

theorem run_loadVar_plain {P : Program} {t : TypeId} {d : TypeDesc} {ad : Addr} {v : Value} {w : World} (hu : P.underlying t = some d) (hd : d.isRow = false)
    (hc : w.cell? ad = some v) : (loadVar t ad).run P w = .ok v w := by
  have : (isAgg t).run P w = .ok false w := by
    unfold isAgg
    rw [Sem.run_bind, run_underlying hu w]
    cases d <;> simp_all
  simp [loadVar, this, hc]

theorem loadE_sound {R : Type} {P : Program} {t : TypeId} {cs : List Value} {off : Nat} {k : Value → Option R} {r : R} (h : loadE P t cs off k = some r) :
    ∃ v, k v = some r ∧ ∀ {ρ : Map} {s : Spot} {sz : Nat} {w : World}, OHas ρ (.cells cs sz) s w → ∃ v', (loadVar t ⟨s.b, s.d + off, none⟩).run P w = .ok v' w ∧ VRel ρ v v' := by
  have hcell : ∀ {arr : Array Value} {ty : TypeId} {cs' : List Value} {s : Spot} {w : World}, ∀ {n : Nat}, Lies w s.b arr ty s.d n → (∀ (i : Nat) v, cs'[i]? = some v → arr[s.d + i]? = some v) →
      ∀ (i : Nat) v, cs'[i]? = some v → w.cell? ⟨s.b, s.d + i, none⟩ = some v := fun hb hc i v hv => by
    obtain ⟨⟨fr, hb⟩, _⟩ := hb
    simp [World.cell?, hb, hc i v hv]
  unfold loadE at h
  cases hrow : isRowB P t with
  | true =>
    simp only [hrow, cond_true] at h
    cases hlen : Nat.ble (off + P.cellsOf t) cs.length && !Nat.beq (P.cellsOf t) 0 with
    | false => simp [hlen] at h
    | true =>
      simp only [hlen, cond_true] at h
      simp only [Bool.and_eq_true, Nat.ble_eq, Bool.not_eq_true'] at hlen
      have hz : P.cellsOf t ≠ 0 := fun e => by have := hlen.2; simp [e] at this
      have hd : ∃ d, P.underlying t = some d ∧ d.isRow = true := by
        unfold isRowB at hrow
        split at hrow
        · exact ⟨_, ‹_›, rfl⟩
        · exact ⟨_, ‹_›, rfl⟩
        · cases hrow
      obtain ⟨d0, hu, hd0⟩ := hd
      refine ⟨_, h, fun {ρ s sz w} ho => ?_⟩
      obtain ⟨arr, ty, cs', hb, hr, hc, _⟩ := ho
      have hl : ((cs'.drop off).take (P.cellsOf t)).length = P.cellsOf t := by
        have := hr.length
        simp
        omega
      refine ⟨.agg ⟨(cs'.drop off).take (P.cellsOf t)⟩, ?_, .agg ((hr.drop off).take _)⟩
      refine run_loadVar_mid w s.b (s.d + off) t _ d0 (fun j v hv => ?_) hu hd0 (by rw [hl]; exact info_of_cells hz)
      rw [Nat.add_assoc]
      refine hcell hb hc (off + j) v ?_
      rw [List.getElem?_take] at hv
      split at hv
      · simpa [List.getElem?_drop] using hv
      · cases hv
  | false =>
    simp only [hrow, cond_false] at h
    cases hu : P.underlying t with
    | none => simp [hu] at h
    | some d0 =>
      simp only [hu, Option.isSome_some, cond_true] at h
      obtain ⟨v, h1, h2⟩ := bind_some' h
      have hd0 : d0.isRow = false := by
        unfold isRowB at hrow
        rw [hu] at hrow
        cases d0 <;> simp_all
      refine ⟨v, h2, fun {ρ s sz w} ho => ?_⟩
      obtain ⟨arr, ty, cs', hb, hr, hc, _⟩ := ho
      obtain ⟨v', h3, h4⟩ := hr.get off h1
      exact ⟨v', run_loadVar_plain hu hd0 (hcell hb hc off v' h3), h4⟩

def splice (cs : List Value) (off : Nat) (vs : List Value) : List Value := cs.take off ++ (vs ++ cs.drop (off + vs.length))

def allOne : List Value → Bool
  | [] => true
  | v :: r => v.oneCell' && allOne r

theorem allOne_rel {ρ : Map} : ∀ {v v' : List Value}, VRels ρ v v' → allOne v = true → ∀ x ∈ v', x.oneCell' = true
  | _, _, .nil, _ => by simp
  | _, _, .cons h hs, hx => by
    simp only [allOne, Bool.and_eq_true] at hx
    intro x hm
    rcases List.mem_cons.1 hm with rfl | hm
    · exact h.oneCell hx.1
    · exact allOne_rel hs hx.2 x hm

theorem VRels.splice {ρ : Map} {cs cs' vs vs' : List Value} (h : VRels ρ cs cs') (g : VRels ρ vs vs') (off : Nat) : VRels ρ (splice cs off vs) (splice cs' off vs') := by
  unfold Vm.splice
  rw [g.length]
  exact (h.take off).append (g.append (h.drop _))

theorem setCells_heap (b : Nat) : ∀ (vs : List Value) (o : Nat) (w : World) (arr : Array Value) (ty : TypeId) (fz : Nat × Nat), w.heap[b]? = some (.cells arr ty fz) →
    (w.setCells b o vs).heap[b]? = some (.cells (vs.zipIdx.foldl (fun a x => a.setIfInBounds (o + x.2) x.1) arr) ty fz) ∧ (∀ b' : Nat, b' ≠ b → (w.setCells b o vs).heap[b']? = w.heap[b']?) ∧
    (w.setCells b o vs).heap.size = w.heap.size ∧ (w.setCells b o vs).os = w.os ∧ (w.setCells b o vs).tape = w.tape ∧ (w.setCells b o vs).output = w.output
  | [], o, w, arr, ty, fz, h => ⟨by simpa [World.setCells] using h, fun _ _ => rfl, rfl, rfl, rfl, rfl⟩
  | v :: r, o, w, arr, ty, fz, h => by
    have h1 : (w.setCell ⟨b, o, none⟩ v).heap[b]? = some (.cells (arr.setIfInBounds o v) ty fz) := by
      simp [World.setCell, Array.getElem?_modify, h]
    obtain ⟨g1, g2, g3, g4, g5, g6⟩ := setCells_heap b r (o + 1) _ _ _ _ h1
    refine ⟨?_, fun b' hb' => ?_, ?_, g4, g5, g6⟩
    · rw [World.setCells, g1]
      congr 2
      rw [List.zipIdx_cons, List.foldl_cons]
      simp only [Nat.add_zero, Nat.zero_add]
      rw [List.zipIdx_succ, List.foldl_map]
      congr 1
      funext a x
      obtain ⟨x1, x2⟩ := x
      simp only
      congr 1
      omega
    · rw [World.setCells, g2 b' hb']
      simp only [World.setCell, Array.getElem?_modify]
      rw [if_neg (by simpa using Ne.symm hb')]
    · rw [World.setCells, g3]; simp

theorem foldl_set_get (vs : List Value) : ∀ (o : Nat) (arr : Array Value) (i : Nat), (vs.zipIdx.foldl (fun a x => a.setIfInBounds (o + x.2) x.1) arr)[i]? =
    if o ≤ i ∧ i < o + vs.length ∧ i < arr.size then vs[i - o]? else arr[i]? := by
  induction vs with
  | nil => intro o arr i; simp; intro h; omega
  | cons v r ih =>
    intro o arr i
    have : (((v :: r).zipIdx).foldl (fun a x => a.setIfInBounds (o + x.2) x.1) arr) = (r.zipIdx.foldl (fun a x => a.setIfInBounds (o + 1 + x.2) x.1) (arr.setIfInBounds o v)) := by
      rw [List.zipIdx_cons, List.foldl_cons]
      simp only [Nat.add_zero, Nat.zero_add]
      rw [List.zipIdx_succ, List.foldl_map]
      congr 1
      funext a x
      obtain ⟨x1, x2⟩ := x
      simp only
      congr 1
      omega
    rw [this, ih]
    simp only [Array.size_setIfInBounds, List.length_cons]
    by_cases h1 : o + 1 ≤ i ∧ i < o + 1 + r.length ∧ i < arr.size
    · rw [if_pos h1, if_pos (by omega)]
      rw [show i - o = (i - (o + 1)) + 1 by omega]
      simp
    · rw [if_neg h1]
      by_cases h2 : i = o
      · subst h2
        by_cases h3 : i < arr.size
        · rw [if_pos (by omega)]
          simp [h3]
        · rw [if_neg (by omega)]
          simp [h3]
      · rw [if_neg (by omega), Array.getElem?_setIfInBounds_ne (Ne.symm h2)]

def storeE {R : Type} (P : Program) (lo : Nat) (H : AH) (t : TypeId) (ad : Addr) (v : Value) (k : AH → Option R) : Option R :=
  match look ad.block H.objs with
  | some (.cells cs sz) =>
    bif Nat.ble lo ad.block && Nat.beq v.cells.toList.length (P.cellsOf t) && !Nat.beq (P.cellsOf t) 0 && Nat.ble (ad.off + v.cells.toList.length) cs.length && allOne v.cells.toList && ad.spot.isNone then
      k (H.put ad.block (.cells (splice cs ad.off v.cells.toList) sz))
    else none
  | _ => none

theorem splice_get {cs vs : List Value} {off i : Nat} (hl : off + vs.length ≤ cs.length) :
    (splice cs off vs)[i]? = if off ≤ i ∧ i < off + vs.length then vs[i - off]? else cs[i]? := by
  have h1 : (cs.take off).length = off := by simp; omega
  unfold splice
  by_cases ha : i < off
  · rw [if_neg (by omega), List.getElem?_append_left (by omega), List.getElem?_take, if_pos ha]
  · rw [List.getElem?_append_right (by omega), h1]
    by_cases hb : i < off + vs.length
    · rw [if_pos (by omega), List.getElem?_append_left (by omega)]
    · rw [if_neg (by omega), List.getElem?_append_right (by omega), List.getElem?_drop]
      congr 1
      omega

theorem splice_length {cs vs : List Value} {off : Nat} (hl : off + vs.length ≤ cs.length) : (splice cs off vs).length = cs.length := by
  simp [splice]; omega

theorem foldl_set_size (vs : List Value) (o : Nat) (arr : Array Value) : (vs.zipIdx.foldl (fun a x => a.setIfInBounds (o + x.2) x.1) arr).size = arr.size := by
  generalize vs.zipIdx = l
  induction l generalizing arr with
  | nil => rfl
  | cons x r ih => rw [List.foldl_cons, ih]; simp

theorem storeE_sound {R : Type} {P : Program} {lo : Nat} {H : AH} {t : TypeId} {ad : Addr} {v : Value} {k : AH → Option R} {r : R} (h : storeE P lo H t ad v k = some r) :
    ∃ H', k H' = some r ∧ ∀ {ρ : Map} {w : World} {ad' : Addr} {v' : Value}, Inv ρ H w → VRel ρ (.pointer (some ad)) (.pointer (some ad')) → VRel ρ v v' →
      ∃ w', (storeVar t ad' v').run P w = .ok () w' ∧ Next lo ρ H w ρ H' w' := by
  unfold storeE at h
  split at h
  · rename_i cs sz hl
    cases hc : (Nat.ble lo ad.block && Nat.beq v.cells.toList.length (P.cellsOf t) && !Nat.beq (P.cellsOf t) 0 && Nat.ble (ad.off + v.cells.toList.length) cs.length && allOne v.cells.toList && ad.spot.isNone) with
    | false => rw [hc] at h; cases h
    | true =>
      rw [hc] at h
      simp only [cond_true] at h
      simp only [Bool.and_eq_true, Nat.ble_eq, Nat.beq_eq, Bool.not_eq_true'] at hc
      obtain ⟨⟨⟨⟨⟨h1, h2⟩, h3⟩, h4⟩, h5⟩, h6⟩ := hc
      have hm := look_mem hl
      refine ⟨_, h, fun {ρ w ad' v'} hi hp hv => ?_⟩
      cases hp with
      | ptr hk =>
        rename_i kb o s
        simp only at *
        obtain ⟨s2, e1, e2⟩ := hi.rel.obj kb _ hm
        rw [hk] at e1
        obtain rfl : s = s2 := by simpa using e1
        obtain ⟨arr, ty, cs', hlies, hr, hcc, hext, hx0⟩ := e2
        obtain ⟨⟨fr, hb⟩, hz0⟩ := id hlies
        have hcl := hv.cells
        have hlen := hcl.length
        have hcslen := hr.length
        have hone := allOne_rel hcl h5
        have hcell : ∀ i, i < cs.length → ∃ u, arr[s.d + i]? = some u := fun i hi => by
          have hlt : i < cs'.length := by omega
          exact ⟨cs'[i], hcc i _ (by simp [hlt])⟩
        have hz : P.cellsOf t ≠ 0 := fun e => by simp [e] at h3
        have hst := run_storeCells_cells (P := P) s.b (s.d + o) v'.cells.toList 0 w (fun j hj => by
            obtain ⟨u, hu⟩ := hcell (o + j) (by omega)
            rw [show s.d + o + 0 + j = s.d + (o + j) by omega]
            simp [World.cell?, hb, hu]) (fun j hj => by
            rw [show s.d + o + 0 + j = s.d + (o + j) by omega]
            exact hz0 _ (by omega)) hone
        simp only [Nat.add_zero] at hst
        obtain ⟨g1, g2, g3, g4, g5, g6⟩ := setCells_heap s.b v'.cells.toList (s.d + o) w arr ty fr hb
        refine ⟨w.setCells s.b (s.d + o) v'.cells.toList, ?_, Next.write hi hm h1 hk _ g3 g4 g5 g6 g2 ⟨_, ty, splice cs' o v'.cells.toList, hlies.put hb g1 rfl (by rw [splice_length (by omega)]; exact Nat.le_refl _), ?_, fun i u hu => ?_, ?_, hx0⟩⟩
        · have hi' := info_of_cells hz
          cases hq : P.info? t with
          | none => simp [hq] at hi'
          | some inf =>
            have hs : v'.cells.size = inf.size := by
              simp [hq] at hi'
              have : v'.cells.toList.length = v'.cells.size := by simp
              omega
            simp [storeVar, sizeOf, typeInfo, hq, hs, hst]
        · exact hr.splice hcl o
        · rw [splice_get (by omega)] at hu
          rw [foldl_set_get]
          split at hu
          · rename_i hin
            have : s.d + i < arr.size := by
              obtain ⟨u', hu'⟩ := hcell i (by omega)
              exact (Array.getElem?_eq_some_iff.1 hu').1
            rw [if_pos (by omega), show s.d + i - (s.d + o) = i - o by omega]
            exact hu
          · rename_i hout
            rw [if_neg (by omega)]
            exact hcc i u hu
        · rw [splice_length (by omega), foldl_set_size]
          exact hext
  · cases h

end Go.Vm
