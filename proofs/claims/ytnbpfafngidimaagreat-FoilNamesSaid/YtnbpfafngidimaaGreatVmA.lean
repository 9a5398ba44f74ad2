/- An abstract memory and how its values stand for the values of the machine; no conditions. Steps of the abstract memory stand for steps of the machine's memory; no conditions. Sums, products and quotients of words of floats, quickly, are those of the standard's; no conditions. Loads and stores of the abstract memory are right; no conditions. Operations on numbers, and built structs, are right; no conditions. New blocks are right; no conditions. -/
import Derived.Deep.MidRow
import Derived.Orders
import Derived.Below
import Derived.KernelRfl
import Derived.WalkLawsBesides
import Derived.Laws.FloatArith
import Derived.IntWalk
set_option linter.unusedSimpArgs false
namespace Go.Vm

/-! ### Abstract memory -/
/- 'cells cs sz': cells, and how many an element has, where the block was made by append (else 0). 'map kk es': keys of kind kk. -/
inductive AObj where
  | cells (cs : List Value) (sz : Nat)
  | map (kk : IntKind) (es : List (Int × Value))

abbrev Objs := List (Nat × AObj)

def look (k : Nat) : Objs → Option AObj
  | [] => none
  | (j, o) :: r => bif Nat.beq j k then some o else look k r

def drop (k : Nat) : Objs → Objs
  | [] => []
  | (j, o) :: r => bif Nat.beq j k then drop k r else (j, o) :: drop k r

structure AH where
  next : Nat
  objs : Objs

theorem look_mem {k : Nat} {o : AObj} : ∀ {S : Objs}, look k S = some o → (k, o) ∈ S
  | [], h => by simp [look] at h
  | (j, u) :: r, h => by
    unfold look at h
    cases hb : Nat.beq j k with
    | true => simp [hb] at h; have := Nat.eq_of_beq_eq_true hb; subst this; subst h; simp
    | false => simp [hb] at h; exact List.mem_cons_of_mem _ (look_mem h)

theorem mem_drop {k : Nat} {x : Nat × AObj} : ∀ {S : Objs}, x ∈ drop k S ↔ x ∈ S ∧ x.1 ≠ k
  | [] => by simp [drop]
  | (j, u) :: r => by
    unfold drop
    cases hb : Nat.beq j k with
    | true =>
      have := Nat.eq_of_beq_eq_true hb
      subst this
      simp only [cond_true, mem_drop (S := r), List.mem_cons]
      constructor
      · rintro ⟨h1, h2⟩; exact ⟨.inr h1, h2⟩
      · rintro ⟨rfl | h1, h2⟩
        · exact absurd rfl h2
        · exact ⟨h1, h2⟩
    | false =>
      have hne : j ≠ k := fun e => by subst e; simp at hb
      simp only [cond_false, List.mem_cons, mem_drop (S := r)]
      constructor
      · rintro (rfl | ⟨h1, h2⟩)
        · exact ⟨.inl rfl, hne⟩
        · exact ⟨.inr h1, h2⟩
      · rintro ⟨rfl | h1, h2⟩
        · exact .inl rfl
        · exact .inr ⟨h1, h2⟩

/-! ### Where the abstract blocks lie -/
/-- Block, first cell, and by how many elements every slice's capacity is greater than told. -/
structure Spot where
  b : Nat
  d : Nat
  x : Nat

abbrev Map := Nat → Option Spot

/- A word that is no number. Where a float's word is not known but that it is such a one, it is told as a float of the other kind, which the program has not. Of a complex number: 0 for such a part, else the word and one more. -/
def nanW (b : Nat) : Bool := (Ieee.double.read b).isNaN
def partW (p a : Nat) : Bool := match p with
  | 0 => nanW a
  | n + 1 => Nat.beq n a

mutual
inductive VRel (ρ : Map) : Value → Value → Prop
  | bool (b : Bool) : VRel ρ (.bool b) (.bool b)
  | int (k : IntKind) (n : Int) : VRel ρ (.int k n) (.int k n)
  | float (n : Nat) : VRel ρ (.float .f64 n) (.float .f64 n)
  | nan (n : Nat) {b : Nat} (h : nanW b = true) : VRel ρ (.float .f32 n) (.float .f64 b)
  | complex (a b : Nat) : VRel ρ (.complex .f64 a b) (.complex .f64 a b)
  | cnan {p q a b : Nat} (h : partW p a = true) (g : partW q b = true) : VRel ρ (.complex .f32 p q) (.complex .f64 a b)
  | string (s : ByteArray) : VRel ρ (.string s) (.string s)
  | nilPtr : VRel ρ (.pointer none) (.pointer none)
  | ptr {k o : Nat} {s : Spot} (h : ρ k = some s) : VRel ρ (.pointer (some ⟨k, o, none⟩)) (.pointer (some ⟨s.b, s.d + o, none⟩))
  | nilSlice (n c : Nat) : VRel ρ (.slice none n c) (.slice none n c)
  | slice {k o n c : Nat} {s : Spot} (h : ρ k = some s) : VRel ρ (.slice (some ⟨k, o, none⟩) n c) (.slice (some ⟨s.b, s.d + o, none⟩) n (c + s.x))
  | nilMap : VRel ρ (.map none) (.map none)
  | map {k : Nat} {s : Spot} (h : ρ k = some s) : VRel ρ (.map (some k)) (.map (some s.b))
  | nilFunc : VRel ρ .nilFunc .nilFunc
  | func (f : Fn) {as as' bs bs' : List Value} (ha : VRels ρ as as') (hb : VRels ρ bs bs') : VRel ρ (.func f ⟨as⟩ ⟨bs⟩) (.func f ⟨as'⟩ ⟨bs'⟩)
  | nilIface : VRel ρ .nilIface .nilIface
  | iface (t : TypeId) {v v' : Value} (h : VRel ρ v v') : VRel ρ (.iface t v) (.iface t v')
  | agg {as as' : List Value} (h : VRels ρ as as') : VRel ρ (.agg ⟨as⟩) (.agg ⟨as'⟩)
  | tuple {as as' : List Value} (h : VRels ρ as as') : VRel ρ (.tuple ⟨as⟩) (.tuple ⟨as'⟩)
inductive VRels (ρ : Map) : List Value → List Value → Prop
  | nil : VRels ρ [] []
  | cons {v v' : Value} {vs vs' : List Value} (h : VRel ρ v v') (hs : VRels ρ vs vs') : VRels ρ (v :: vs) (v' :: vs')
end

section
variable {ρ ρ' : Map}
mutual
theorem VRel.mono (hρ : ∀ k p, ρ k = some p → ρ' k = some p) : ∀ {v v' : Value}, VRel ρ v v' → VRel ρ' v v'
  | _, _, .bool b => .bool b
  | _, _, .int k n => .int k n
  | _, _, .float n => .float n
  | _, _, .nan n h => .nan n h
  | _, _, .complex a b => .complex a b
  | _, _, .cnan h g => .cnan h g
  | _, _, .string s => .string s
  | _, _, .nilPtr => .nilPtr
  | _, _, .ptr h => .ptr (hρ _ _ h)
  | _, _, .nilSlice n c => .nilSlice n c
  | _, _, .slice h => .slice (hρ _ _ h)
  | _, _, .nilMap => .nilMap
  | _, _, .map h => .map (hρ _ _ h)
  | _, _, .nilFunc => .nilFunc
  | _, _, .func f ha hb => .func f (VRels.mono hρ ha) (VRels.mono hρ hb)
  | _, _, .nilIface => .nilIface
  | _, _, .iface t h => .iface t (VRel.mono hρ h)
  | _, _, .agg h => .agg (VRels.mono hρ h)
  | _, _, .tuple h => .tuple (VRels.mono hρ h)
theorem VRels.mono (hρ : ∀ k p, ρ k = some p → ρ' k = some p) : ∀ {v v' : List Value}, VRels ρ v v' → VRels ρ' v v'
  | _, _, .nil => .nil
  | _, _, .cons h hs => .cons (VRel.mono hρ h) (VRels.mono hρ hs)
end
end

/- Every block that a value names has a number below n. -/
mutual
def inn (n : Nat) : Value → Bool
  | .pointer (some a) => Nat.blt a.block n
  | .slice (some a) _ _ => Nat.blt a.block n
  | .map (some k) => Nat.blt k n
  | .chan _ => false
  | .float .f32 _ => false
  | .complex .f32 _ _ => false
  | .func _ as bs => innA n as && innA n bs
  | .iface _ v => inn n v
  | .agg as => innA n as
  | .tuple as => innA n as
  | _ => true
def innA (n : Nat) : Array Value → Bool
  | ⟨l⟩ => inns n l
def inns (n : Nat) : List Value → Bool
  | [] => true
  | v :: r => inn n v && inns n r
end

section
variable {ρ ρ' : Map} {n : Nat}
mutual
theorem VRel.scope (hρ : ∀ k, k < n → ρ' k = ρ k) : ∀ {v v' : Value}, VRel ρ' v v' → inn n v = true → VRel ρ v v'
  | _, _, .bool b, _ => .bool b
  | _, _, .int k n, _ => .int k n
  | _, _, .float n, _ => .float n
  | _, _, .nan n h, _ => .nan n h
  | _, _, .complex a b, _ => .complex a b
  | _, _, .cnan h g, _ => .cnan h g
  | _, _, .string s, _ => .string s
  | _, _, .nilPtr, _ => .nilPtr
  | _, _, .ptr h, hs => .ptr (by rw [← hρ _ (by simpa [inn, Nat.blt_eq] using hs)]; exact h)
  | _, _, .nilSlice n c, _ => .nilSlice n c
  | _, _, .slice h, hs => .slice (by rw [← hρ _ (by simpa [inn, Nat.blt_eq] using hs)]; exact h)
  | _, _, .nilMap, _ => .nilMap
  | _, _, .map h, hs => .map (by rw [← hρ _ (by simpa [inn, Nat.blt_eq] using hs)]; exact h)
  | _, _, .nilFunc, _ => .nilFunc
  | _, _, .func f ha hb, hs => by
    simp only [inn, innA, Bool.and_eq_true] at hs
    exact .func f (VRels.scope hρ ha hs.1) (VRels.scope hρ hb hs.2)
  | _, _, .nilIface, _ => .nilIface
  | _, _, .iface t h, hs => .iface t (VRel.scope hρ h (by simpa [inn] using hs))
  | _, _, .agg h, hs => .agg (VRels.scope hρ h (by simpa [inn, innA] using hs))
  | _, _, .tuple h, hs => .tuple (VRels.scope hρ h (by simpa [inn, innA] using hs))
theorem VRels.scope (hρ : ∀ k, k < n → ρ' k = ρ k) : ∀ {v v' : List Value}, VRels ρ' v v' → inns n v = true → VRels ρ v v'
  | _, _, .nil, _ => .nil
  | _, _, .cons h hs, hx => by
    simp only [inns, Bool.and_eq_true] at hx
    exact .cons (VRel.scope hρ h hx.1) (VRels.scope hρ hs hx.2)
end
end

/-- No pointers at all. -/
def flat (v : Value) : Bool := inn 0 v

theorem VRel.flat_eq {ρ : Map} {v v' : Value} (h : VRel ρ v v') : flat v = true → v' = v := by
  unfold flat
  refine VRel.rec (motive_1 := fun v v' _ => inn 0 v = true → v' = v) (motive_2 := fun vs vs' _ => inns 0 vs = true → vs' = vs)
    ?_ ?_ ?_ ?_ ?_ ?_ ?_ ?_ ?_ ?_ ?_ ?_ ?_ ?_ ?_ ?_ ?_ ?_ ?_ ?_ ?_ h
  all_goals intros
  all_goals simp_all [inn, innA, inns]

theorem VRels.flat_eq {ρ : Map} : ∀ {v v' : List Value}, VRels ρ v v' → inns 0 v = true → v' = v
  | _, _, .nil, _ => rfl
  | _, _, .cons h hs, hx => by
    simp only [inns, Bool.and_eq_true] at hx
    rw [h.flat_eq hx.1, hs.flat_eq hx.2]

mutual
theorem VRel.ofFlat (ρ : Map) : ∀ {v : Value}, inn 0 v = true → VRel ρ v v
  | .bool b, _ => .bool b
  | .int k n, _ => .int k n
  | .float .f64 n, _ => .float n
  | .float .f32 n, h => by simp [inn] at h
  | .complex .f64 a b, _ => .complex a b
  | .complex .f32 a b, h => by simp [inn] at h
  | .string s, _ => .string s
  | .pointer none, _ => .nilPtr
  | .pointer (some a), h => by simp [inn] at h
  | .slice none n c, _ => .nilSlice n c
  | .slice (some a) _ _, h => by simp [inn] at h
  | .map none, _ => .nilMap
  | .map (some a), h => by simp [inn] at h
  | .chan _, h => by simp [inn] at h
  | .nilFunc, _ => .nilFunc
  | .func f ⟨as⟩ ⟨bs⟩, h => by
    simp only [inn, innA, Bool.and_eq_true] at h
    exact .func f (VRels.ofFlat ρ h.1) (VRels.ofFlat ρ h.2)
  | .nilIface, _ => .nilIface
  | .iface t v, h => .iface t (VRel.ofFlat ρ (by simpa [inn] using h))
  | .agg ⟨as⟩, h => .agg (VRels.ofFlat ρ (by simpa [inn, innA] using h))
  | .tuple ⟨as⟩, h => .tuple (VRels.ofFlat ρ (by simpa [inn, innA] using h))
theorem VRels.ofFlat (ρ : Map) : ∀ {v : List Value}, inns 0 v = true → VRels ρ v v
  | [], _ => .nil
  | v :: r, h => by
    simp only [inns, Bool.and_eq_true] at h
    exact .cons (VRel.ofFlat ρ h.1) (VRels.ofFlat ρ h.2)
end

end Go.Vm
namespace Go.Vm
set_option linter.unusedVariables false
set_option linter.unusedSimpArgs false

theorem beq_ne {s t : Nat} (h : s ≠ t) : Nat.beq s t = false := by
  cases hb : Nat.beq s t with
  | true => exact absurd (Nat.eq_of_beq_eq_true hb) h
  | false => rfl

/-! ### What the concrete memory holds of an abstract object -/
inductive MRels (ρ : Map) (kk : IntKind) : List (Int × Value) → List MapEntry → Prop
  | nil : MRels ρ kk [] []
  | cons {n : Int} {v v' : Value} {b : Nat} {es : List (Int × Value)} {es' : List MapEntry} (h : VRel ρ v v') (hs : MRels ρ kk es es') :
      MRels ρ kk ((n, v) :: es) ({ key := .int kk n, val := v', born := b } :: es')

theorem MRels.mono {ρ ρ' : Map} {kk : IntKind} (hρ : ∀ k p, ρ k = some p → ρ' k = some p) : ∀ {es es'}, MRels ρ kk es es' → MRels ρ' kk es es'
  | _, _, .nil => .nil
  | _, _, .cons h hs => .cons (h.mono hρ) (hs.mono hρ)

def OHas (ρ : Map) (o : AObj) (s : Spot) (w : World) : Prop :=
  match o with
  | .cells cs sz => ∃ (arr : Array Value) (ty : TypeId) (cs' : List Value), w.heap[s.b]? = some (.cells arr ty (0, 0)) ∧ VRels ρ cs cs' ∧ (∀ (i : Nat) v, cs'[i]? = some v → arr[s.d + i]? = some v) ∧ s.d + cs.length + s.x * sz ≤ arr.size ∧ (sz = 0 → s.x = 0)
  | .map kk es => ∃ (arr : Array MapEntry) (clock : Nat), w.heap[s.b]? = some (.map arr clock) ∧ MRels ρ kk es arr.toList

theorem OHas.mono {ρ ρ' : Map} (hρ : ∀ k p, ρ k = some p → ρ' k = some p) {o : AObj} {s : Spot} {w : World} (h : OHas ρ o s w) : OHas ρ' o s w := by
  cases o with
  | cells cs => obtain ⟨arr, ty, cs', h1, h2, h3⟩ := h; exact ⟨arr, ty, cs', h1, h2.mono hρ, h3⟩
  | map kk es => obtain ⟨arr, cl, h1, h2⟩ := h; exact ⟨arr, cl, h1, h2.mono hρ⟩

theorem OHas.heap {ρ : Map} {o : AObj} {s : Spot} {w w' : World} (e : w'.heap[s.b]? = w.heap[s.b]?) (h : OHas ρ o s w) : OHas ρ o s w' := by
  cases o with
  | cells cs => obtain ⟨arr, ty, cs', h1, h2, h3⟩ := h; exact ⟨arr, ty, cs', e.trans h1, h2, h3⟩
  | map kk es => obtain ⟨arr, cl, h1, h2⟩ := h; exact ⟨arr, cl, e.trans h1, h2⟩

theorem OHas.lt {ρ : Map} {o : AObj} {s : Spot} {w : World} (h : OHas ρ o s w) : s.b < w.heap.size := by
  have : (w.heap[s.b]?).isSome = true := by
    cases o with
    | cells cs => obtain ⟨arr, ty, cs', h1, _⟩ := h; simp [h1]
    | map kk es => obtain ⟨arr, cl, h1, _⟩ := h; simp [h1]
  rcases Nat.lt_or_ge s.b w.heap.size with h' | h'
  · exact h'
  · simp [Array.getElem?_eq_none h'] at this

structure HRel (ρ : Map) (S : Objs) (w : World) : Prop where
  obj : ∀ k o, (k, o) ∈ S → ∃ s, ρ k = some s ∧ OHas ρ o s w
  inj : ∀ k o k' o' s s', (k, o) ∈ S → (k', o') ∈ S → ρ k = some s → ρ k' = some s' → s.b = s'.b → k = k'

theorem HRel.sub {ρ : Map} {S T : Objs} {w : World} (h : HRel ρ S w) (hs : ∀ x, x ∈ T → x ∈ S) : HRel ρ T w :=
  ⟨fun k o hm => h.obj k o (hs _ hm), fun k o k' o' b d h1 h2 => h.inj k o k' o' b d (hs _ h1) (hs _ h2)⟩

structure Inv (ρ : Map) (H : AH) (w : World) : Prop where
  dom : ∀ k, H.next ≤ k → ρ k = none
  wf : ∀ k o, (k, o) ∈ H.objs → k < H.next
  one : ∀ k o o', (k, o) ∈ H.objs → (k, o') ∈ H.objs → o = o'
  rel : HRel ρ H.objs w

theorem Inv.lt {ρ : Map} {H : AH} {w : World} (h : Inv ρ H w) {k : Nat} {p : Spot} (hk : ρ k = some p) : k < H.next := by
  rcases Nat.lt_or_ge k H.next with h' | h'
  · exact h'
  · rw [h.dom k h'] at hk; cases hk

/-- From (ρ, H, w) to (ρ', H', w'): abstract blocks below 'lo' stand, and so does every concrete block that is not one of the others'. -/
structure Next (lo : Nat) (ρ : Map) (H : AH) (w : World) (ρ' : Map) (H' : AH) (w' : World) : Prop where
  inv : Inv ρ' H' w'
  same : ∀ k, k < H.next → ρ' k = ρ k
  nx : H.next ≤ H'.next
  size : w.heap.size ≤ w'.heap.size
  os : w'.os = w.os
  tape : w'.tape = w.tape
  output : w'.output = w.output
  keep : ∀ b, b < w.heap.size → (∀ k o s, lo ≤ k → (k, o) ∈ H.objs → ρ k = some s → s.b ≠ b) → w'.heap[b]? = w.heap[b]?
  own : ∀ k o s, lo ≤ k → (k, o) ∈ H'.objs → ρ' k = some s → w.heap.size ≤ s.b ∨ ∃ k' o' s', lo ≤ k' ∧ (k', o') ∈ H.objs ∧ ρ k' = some s' ∧ s'.b = s.b
  old : ∀ k o, k < lo → ((k, o) ∈ H'.objs ↔ (k, o) ∈ H.objs)

section
variable {lo : Nat} {ρ ρ' ρ'' : Map} {H H' H'' : AH} {w w' w'' : World}

theorem Next.ext (h : Next lo ρ H w ρ' H' w') (hi : Inv ρ H w) : ∀ k p, ρ k = some p → ρ' k = some p := fun k p hk => by
  rw [h.same k (hi.lt hk)]; exact hk

theorem Next.refl (hi : Inv ρ H w) : Next lo ρ H w ρ H w :=
  ⟨hi, fun _ _ => rfl, Nat.le_refl _, Nat.le_refl _, rfl, rfl, rfl, fun _ _ _ => rfl, fun k o s h1 h2 h3 => .inr ⟨k, o, s, h1, h2, h3, rfl⟩, fun _ _ _ => Iff.rfl⟩

theorem Next.trans (h : Next lo ρ H w ρ' H' w') (g : Next lo ρ' H' w' ρ'' H'' w'') : Next lo ρ H w ρ'' H'' w'' where
  inv := g.inv
  same k hk := (g.same k (Nat.lt_of_lt_of_le hk h.nx)).trans (h.same k hk)
  nx := Nat.le_trans h.nx g.nx
  size := Nat.le_trans h.size g.size
  os := g.os.trans h.os
  tape := g.tape.trans h.tape
  output := g.output.trans h.output
  keep b hb hn := by
    rw [← h.keep b hb hn]
    refine g.keep b (Nat.lt_of_lt_of_le hb h.size) fun k o s hk hm he e => ?_
    rcases h.own k o s hk hm he with h1 | ⟨k', o', s', h1, h2, h3, h4⟩
    · omega
    · exact hn k' o' s' h1 h2 h3 (h4.trans e)
  own k o s hk hm he := by
    rcases g.own k o s hk hm he with h1 | ⟨k', o', s', h1, h2, h3, h4⟩
    · exact .inl (Nat.le_trans h.size h1)
    · rcases h.own k' o' s' h1 h2 h3 with h5 | ⟨k2, o2, s2, g1, g2, g3, g4⟩
      · exact .inl (h4 ▸ h5)
      · exact .inr ⟨k2, o2, s2, g1, g2, g3, g4.trans h4⟩
  old k o hk := (g.old k o hk).trans (h.old k o hk)

/-- A weaker wall. -/
theorem Next.weaken {lo' : Nat} (hl : lo' ≤ lo) (h : Next lo ρ H w ρ' H' w') (hi : Inv ρ H w) : Next lo' ρ H w ρ' H' w' :=
  { h with
    keep := fun b hb hn => h.keep b hb fun k o s hk => hn k o s (Nat.le_trans hl hk)
    own := fun k o s hk hm he => by
      rcases Nat.lt_or_ge k lo with h1 | h1
      · have hm' := (h.old k o h1).1 hm
        refine .inr ⟨k, o, s, hk, hm', ?_, rfl⟩
        rw [← h.same k (hi.wf k o hm')]; exact he
      · rcases h.own k o s h1 hm he with h2 | ⟨k', o', s', h2, h3, h4⟩
        · exact .inl h2
        · exact .inr ⟨k', o', s', Nat.le_trans hl h2, h3, h4⟩
    old := fun k o hk => h.old k o (Nat.lt_of_lt_of_le hk hl) }

theorem HRel.heap (h : HRel ρ H.objs w) (e : ∀ b : Nat, w'.heap[b]? = w.heap[b]?) : HRel ρ H.objs w' :=
  ⟨fun k o hm => let ⟨s, h1, h2⟩ := h.obj k o hm; ⟨s, h1, h2.heap (e s.b)⟩, h.inj⟩

/-- A step that leaves the blocks alone (a draw). -/
theorem Next.draw (hi : Inv ρ H w) : Next lo ρ H w ρ H w.drew :=
  { Next.refl (lo := lo) hi with inv := ⟨hi.dom, hi.wf, hi.one, hi.rel.heap (w' := w.drew) fun _ => rfl⟩ }

/-- What a callee left behind is forgotten. -/
theorem Next.forget (hi : Inv ρ H w) (h : Next H.next ρ H w ρ' H' w') : Next lo ρ H w ρ H w' := by
  have hk : ∀ k o s, (k, o) ∈ H.objs → ρ k = some s → w'.heap[s.b]? = w.heap[s.b]? := fun k o s hm he => by
    obtain ⟨s', e1, e2⟩ := hi.rel.obj k o hm
    rw [e1] at he
    obtain rfl : s' = s := by simpa using he
    refine h.keep s'.b e2.lt fun k' o' s'' hl hm' => ?_
    exact absurd (hi.wf k' o' hm') (by omega)
  exact
  { inv := ⟨hi.dom, hi.wf, hi.one, ⟨fun k o hm => let ⟨s, h1, h2⟩ := hi.rel.obj k o hm; ⟨s, h1, h2.heap (hk k o s hm h1)⟩, hi.rel.inj⟩⟩
    same := fun _ _ => rfl
    nx := Nat.le_refl _
    size := h.size
    os := h.os
    tape := h.tape
    output := h.output
    keep := fun b hb _ => h.keep b hb fun k o s hk hm => absurd (hi.wf k o hm) (by omega)
    own := fun k o s hk hm he => .inr ⟨k, o, s, hk, hm, he, rfl⟩
    old := fun _ _ _ => Iff.rfl }

def upd (ρ : Map) (k : Nat) (p : Spot) : Map := fun j => bif Nat.beq j k then some p else ρ j

theorem upd_same (ρ : Map) (k : Nat) (p : Spot) : upd ρ k p k = some p := by simp [upd]
theorem upd_ne {ρ : Map} {k j : Nat} {p : Spot} (h : j ≠ k) : upd ρ k p j = ρ j := by
  have : Nat.beq j k = false := beq_ne h
  simp [upd, this]
theorem upd_ext (hi : Inv ρ H w) (p : Spot) : ∀ k q, ρ k = some q → upd ρ H.next p k = some q := fun k q hk => by
  rw [upd_ne (Nat.ne_of_lt (hi.lt hk))]; exact hk

def AH.push (H : AH) (o : AObj) : AH := ⟨H.next + 1, (H.next, o) :: H.objs⟩

/-- A new abstract block, in a new concrete one or in one whose abstract block is no more ('S': what is left of the old ones). -/
theorem Next.add (hi : Inv ρ H w) (hlo : lo ≤ H.next) (o : AObj) (p : Spot) (S : Objs) (hS : ∀ x, x ∈ S → x ∈ H.objs)
    (hkeep : ∀ k o, k < lo → (k, o) ∈ H.objs → (k, o) ∈ S)
    (hsz : w.heap.size ≤ w'.heap.size) (hos : w'.os = w.os) (htape : w'.tape = w.tape) (hout : w'.output = w.output)
    (hheap : ∀ b : Nat, b < w.heap.size → b ≠ p.b → w'.heap[b]? = w.heap[b]?)
    (hown : w.heap.size ≤ p.b ∨ ∃ k' o' s', lo ≤ k' ∧ (k', o') ∈ H.objs ∧ ρ k' = some s' ∧ s'.b = p.b)
    (hfree : ∀ k o s, (k, o) ∈ S → ρ k = some s → s.b ≠ p.b)
    (ho : OHas (upd ρ H.next p) o p w') :
    Next lo ρ H w (upd ρ H.next p) ⟨H.next + 1, (H.next, o) :: S⟩ w' := by
  have hext := upd_ext hi p
  refine
  { inv := ⟨fun k hk => ?_, fun k o' hm => ?_, fun k o' o'' h1 h2 => ?_, ⟨fun k o' hm => ?_, fun k o' k' o'' s s' h1 h2 h3 h4 h5 => ?_⟩⟩
    same := fun k hk => upd_ne (Nat.ne_of_lt hk)
    nx := Nat.le_succ _
    size := hsz
    os := hos
    tape := htape
    output := hout
    keep := fun b hb hn => hheap b hb fun e => ?_
    own := fun k o' s hk hm he => ?_
    old := fun k o' hk => ?_ }
  · simp only at hk
    rw [upd_ne (by omega)]
    exact hi.dom k (by omega)
  · simp only [List.mem_cons, Prod.mk.injEq] at hm ⊢
    rcases hm with ⟨rfl, _⟩ | hm
    · omega
    · have := hi.wf k o' (hS _ hm); omega
  · simp only [List.mem_cons, Prod.mk.injEq] at h1 h2
    rcases h1 with ⟨rfl, rfl⟩ | h1
    · rcases h2 with ⟨_, rfl⟩ | h2
      · rfl
      · exact absurd (hi.wf _ _ (hS _ h2)) (by omega)
    · rcases h2 with ⟨rfl, rfl⟩ | h2
      · exact absurd (hi.wf _ _ (hS _ h1)) (by omega)
      · exact hi.one k _ _ (hS _ h1) (hS _ h2)
  · simp only [List.mem_cons, Prod.mk.injEq] at hm
    rcases hm with ⟨rfl, rfl⟩ | hm
    · exact ⟨p, upd_same _ _ _, ho⟩
    · obtain ⟨s, h1, h2⟩ := hi.rel.obj k o' (hS _ hm)
      exact ⟨s, hext _ _ h1, (h2.mono hext).heap (hheap s.b h2.lt (hfree k o' s hm h1))⟩
  · simp only [List.mem_cons, Prod.mk.injEq] at h1 h2
    rcases h1 with ⟨rfl, rfl⟩ | h1
    · rcases h2 with ⟨rfl, _⟩ | h2
      · rfl
      · rw [upd_same] at h3
        rw [upd_ne (Nat.ne_of_lt (hi.wf k' o'' (hS _ h2)))] at h4
        cases h3
        exact absurd h5.symm (hfree k' o'' s' h2 h4)
    · rcases h2 with ⟨rfl, rfl⟩ | h2
      · rw [upd_same] at h4
        rw [upd_ne (Nat.ne_of_lt (hi.wf k o' (hS _ h1)))] at h3
        cases h4
        exact absurd h5 (hfree k o' s h1 h3)
      · rw [upd_ne (Nat.ne_of_lt (hi.wf k o' (hS _ h1)))] at h3
        rw [upd_ne (Nat.ne_of_lt (hi.wf k' o'' (hS _ h2)))] at h4
        exact hi.rel.inj k o' k' o'' s s' (hS _ h1) (hS _ h2) h3 h4 h5
  · subst e
    rcases hown with h | ⟨k', o', s', h1, h2, h3, h4⟩
    · omega
    · exact hn k' o' s' h1 h2 h3 h4
  · simp only [List.mem_cons, Prod.mk.injEq] at hm
    rcases hm with ⟨rfl, rfl⟩ | hm
    · rw [upd_same] at he
      cases he
      exact hown
    · rw [upd_ne (Nat.ne_of_lt (hi.wf k o' (hS _ hm)))] at he
      exact .inr ⟨k, o', s, hk, hS _ hm, he, rfl⟩
  · simp only [List.mem_cons, Prod.mk.injEq]
    constructor
    · rintro (⟨rfl, _⟩ | h)
      · omega
      · exact hS _ h
    · intro h; exact .inr (hkeep k o' hk h)

/-- A new block. -/
theorem Next.alloc (hi : Inv ρ H w) (hlo : lo ≤ H.next) (o : AObj) (ob : Obj) (x : Nat) (ho : OHas (upd ρ H.next ⟨w.heap.size, 0, x⟩) o ⟨w.heap.size, 0, x⟩ (w.alloc ob)) :
    Next lo ρ H w (upd ρ H.next ⟨w.heap.size, 0, x⟩) (H.push o) (w.alloc ob) := by
  refine Next.add hi hlo o ⟨w.heap.size, 0, x⟩ H.objs (fun _ h => h) (fun _ _ _ h => h) (by simp) rfl rfl rfl (fun b hb _ => ?_) (.inl (Nat.le_refl _)) (fun k o s hm he => ?_) ho
  · simp only [World.alloc, Array.getElem?_push]
    rw [if_neg (by omega)]
  · obtain ⟨s', e1, e2⟩ := hi.rel.obj k o hm
    rw [e1] at he
    cases he
    exact Nat.ne_of_lt e2.lt

def AH.put (H : AH) (k : Nat) (o : AObj) : AH := ⟨H.next, (k, o) :: drop k H.objs⟩

/-- A block of one's own is written. -/
theorem Next.write (hi : Inv ρ H w) {k : Nat} {o : AObj} (hm : (k, o) ∈ H.objs) (hlo : lo ≤ k) {s : Spot} (hb : ρ k = some s) (o' : AObj)
    (hsz : w'.heap.size = w.heap.size) (hos : w'.os = w.os) (htape : w'.tape = w.tape) (hout : w'.output = w.output)
    (hheap : ∀ b' : Nat, b' ≠ s.b → w'.heap[b']? = w.heap[b']?) (ho : OHas ρ o' s w') : Next lo ρ H w ρ (H.put k o') w' := by
  refine
  { inv := ⟨hi.dom, fun j u hu => ?_, fun j u u' h1 h2 => ?_, ⟨fun j u hu => ?_, fun j u j' u' s1 s1' h1 h2 h3 h4 h5 => ?_⟩⟩
    same := fun _ _ => rfl
    nx := Nat.le_refl _
    size := Nat.le_of_eq hsz.symm
    os := hos
    tape := htape
    output := hout
    keep := fun b' hb' hn => hheap b' fun e => hn k o s hlo hm hb e.symm
    own := fun j u s' hj hu he => ?_
    old := fun j u hj => ?_ }
  all_goals simp only [AH.put, List.mem_cons, Prod.mk.injEq, mem_drop] at *
  · rcases hu with ⟨rfl, _⟩ | hu
    · exact hi.wf _ _ hm
    · exact hi.wf _ _ hu.1
  · rcases h1 with ⟨rfl, rfl⟩ | h1
    · rcases h2 with ⟨_, rfl⟩ | h2
      · rfl
      · exact absurd rfl h2.2
    · rcases h2 with ⟨rfl, rfl⟩ | h2
      · exact absurd rfl h1.2
      · exact hi.one j _ _ h1.1 h2.1
  · rcases hu with ⟨rfl, rfl⟩ | hu
    · exact ⟨s, hb, ho⟩
    · obtain ⟨s1, e1, e2⟩ := hi.rel.obj j u hu.1
      exact ⟨s1, e1, e2.heap (hheap s1.b fun e => hu.2 (hi.rel.inj j u k o s1 s hu.1 hm e1 hb e))⟩
  · have hx : ∀ j u, ((j = k ∧ u = o') ∨ ((j, u) ∈ H.objs ∧ j ≠ k)) → ∃ u', (j, u') ∈ H.objs := fun j u h => by
      rcases h with ⟨rfl, _⟩ | h
      · exact ⟨o, hm⟩
      · exact ⟨u, h.1⟩
    obtain ⟨v1, g1⟩ := hx j u h1
    obtain ⟨v2, g2⟩ := hx j' u' h2
    exact hi.rel.inj j v1 j' v2 s1 s1' g1 g2 h3 h4 h5
  · rcases hu with ⟨rfl, _⟩ | hu
    · exact .inr ⟨j, o, s', hj, hm, he, rfl⟩
    · exact .inr ⟨j, u, s', hj, hu.1, he, rfl⟩
  · constructor
    · rintro (⟨rfl, _⟩ | h)
      · omega
      · exact h.1
    · intro h
      exact .inr ⟨h, by omega⟩

end

/-! ### The slots -/
abbrev Env := List (Nat × Value)

def getE (t : Nat) : Env → Option Value
  | [] => none
  | (s, v) :: r => bif Nat.beq s t then some v else getE t r

def dedup (seen : Nat) : Env → Env
  | [] => []
  | (s, v) :: r => bif Nat.testBit seen s then dedup seen r else (s, v) :: dedup (seen ||| (1 <<< s)) r

theorem getE_dedup (t : Nat) : ∀ (e : Env) (seen : Nat), Nat.testBit seen t = false → getE t (dedup seen e) = getE t e
  | [], _, _ => rfl
  | (s, v) :: r, seen, h => by
    unfold dedup
    cases hs : Nat.testBit seen s with
    | true =>
      have hne : s ≠ t := fun e => by subst e; rw [h] at hs; cases hs
      have hb : Nat.beq s t = false := beq_ne hne
      simp only [cond_true, getE, hb, cond_false]
      exact getE_dedup t r seen h
    | false =>
      simp only [cond_false, getE]
      cases hb : Nat.beq s t with
      | true => rfl
      | false =>
        have hne : s ≠ t := fun e => by subst e; simp at hb
        simp only [cond_false]
        refine getE_dedup t r _ ?_
        rw [Nat.testBit_or, h, Nat.one_shiftLeft, Nat.testBit_two_pow]
        simpa using hne

def EnvRel (ρ : Map) (e : Env) (tmps : Array Value) : Prop := ∀ t v, getE t e = some v → ∃ v', tmps[t]? = some v' ∧ VRel ρ v v'

theorem EnvRel.mono {ρ ρ' : Map} {e : Env} {tmps : Array Value} (hρ : ∀ k p, ρ k = some p → ρ' k = some p) (h : EnvRel ρ e tmps) : EnvRel ρ' e tmps := fun t v hv =>
  let ⟨v', h1, h2⟩ := h t v hv; ⟨v', h1, h2.mono hρ⟩

theorem EnvRel.dedup {ρ : Map} {e : Env} {tmps : Array Value} (h : EnvRel ρ e tmps) : EnvRel ρ (dedup 0 e) tmps := fun t v hv => by
  rw [getE_dedup t e 0 (by simp)] at hv; exact h t v hv

theorem EnvRel.put {ρ : Map} {e : Env} {tmps : Array Value} (h : EnvRel ρ e tmps) {d : Nat} (hd : d < tmps.size) {v v' : Value} (hv : VRel ρ v v') :
    EnvRel ρ ((d, v) :: e) (tmps.setIfInBounds d v') := fun t u hu => by
  unfold getE at hu
  cases hb : Nat.beq d t with
  | true =>
    have := Nat.eq_of_beq_eq_true hb
    subst this
    simp [hb] at hu
    subst hu
    exact ⟨v', by simp [hd], hv⟩
  | false =>
    have hne : d ≠ t := fun e => by subst e; simp at hb
    simp only [hb, cond_false] at hu
    obtain ⟨u', h1, h2⟩ := h t u hu
    exact ⟨u', by rw [Array.getElem?_setIfInBounds_ne hne]; exact h1, h2⟩

end Go.Vm
namespace Go.Vm
open Ieee
set_option linter.unusedVariables false
set_option linter.unusedSimpArgs false

/-! ### Arithmetic of words by whole numbers alone: quick where a machine reckons with them -/
def forceN {R : Type} (n : Nat) (k : Nat → R) : R := Nat.casesOn n (k 0) fun m => k (Nat.succ m)
theorem forceN_eq {R : Type} (n : Nat) (k : Nat → R) : forceN n k = k n := by cases n <;> rfl

def expoW (w : Nat) : Nat := Nat.mod (Nat.div w 4503599627370496) 2048
def mantW (w : Nat) : Nat := bif Nat.beq (expoW w) 0 then Nat.mod w 4503599627370496 else Nat.add 4503599627370496 (Nat.mod w 4503599627370496)
def plcW (w : Nat) : Nat := Nat.sub (expoW w) 1
def sgnW (w : Nat) : Bool := Nat.beq (Nat.mod (Nat.div w 9223372036854775808) 2) 1
def finW (w : Nat) : Bool := Nat.blt (expoW w) 2047

theorem nb (a b : Nat) : Nat.beq a b = decide (a = b) := by
  cases h : Nat.beq a b with
  | true => have := Nat.eq_of_beq_eq_true h; simp [this]
  | false => have : a ≠ b := fun e => by subst e; simp at h
             simp [this]
theorem nl (a b : Nat) : Nat.blt a b = decide (a < b) := by
  cases h : Nat.blt a b with
  | true => have : a < b := by simpa using h
            simp [this]
  | false => have : ¬ a < b := fun e => by rw [show Nat.blt a b = true by simpa using e] at h; cases h
             simp [this]
theorem nle (a b : Nat) : Nat.ble a b = decide (a ≤ b) := by
  cases h : Nat.ble a b with
  | true => have : a ≤ b := by simpa using h
            simp [this]
  | false => have : ¬ a ≤ b := fun e => by rw [show Nat.ble a b = true by simpa using e] at h; cases h
             simp [this]

theorem read_fast {w : Nat} (h : finW w = true) : double.read w = .number (sgnW w) (mantW w) ((plcW w : Int) - 1074) := by
  have e1 : double.signWeight = 9223372036854775808 := by decide
  have e2 : double.binade = 4503599627370496 := by decide
  have e3 : double.infRung = 9218868437227405312 := by decide
  have e4 : double.leastPlace = -1074 := by decide
  unfold finW at h
  rw [nl] at h
  have hE : expoW w < 2047 := by simpa using h
  have hEe : expoW w = w / 4503599627370496 % 2048 := rfl
  have hs : sgnW w = (w / 9223372036854775808 % 2 == 1) := by
    unfold sgnW
    rw [nb]
    show decide (w / 9223372036854775808 % 2 = 1) = _
    by_cases g : w / 9223372036854775808 % 2 = 1 <;> simp [g]
  unfold Format.read
  simp only [e1, e2, e3, e4]
  rw [← hs]
  unfold mantW plcW
  rw [nb]
  by_cases h0 : expoW w = 0
  · have : w % 9223372036854775808 < 4503599627370496 := by omega
    have e : w % 9223372036854775808 = w % 4503599627370496 := by omega
    rw [if_pos this]
    simp only [h0, decide_true, cond_true]
    rw [e]
    rfl
  · have h1 : ¬ (w % 9223372036854775808 < 4503599627370496) := by omega
    have h2 : w % 9223372036854775808 < 9218868437227405312 := by omega
    rw [if_neg h1, if_pos h2]
    simp only [h0, decide_false, cond_false]
    have q1 : w % 9223372036854775808 % 4503599627370496 = w % 4503599627370496 := by omega
    have q2 : w % 9223372036854775808 / 4503599627370496 = expoW w := by omega
    rw [q1, q2]
    have q3 : (-1074 : Int) + ((expoW w - 1 : Nat) : Int) = (((expoW w - 1 : Nat)) : Int) - 1074 := by omega
    rw [q3]
    rfl

/-! the binary logarithm, by halves -/
def lgStep (k : Nat) (m acc : Nat) (next : Nat → Nat → Nat) : Nat := forceN (Nat.shiftRight m k) fun h => bif Nat.beq h 0 then next m acc else next h (Nat.add acc k)
def lg7 (m acc : Nat) : Nat := lgStep 64 m acc fun m acc => lgStep 32 m acc fun m acc => lgStep 16 m acc fun m acc => lgStep 8 m acc fun m acc => lgStep 4 m acc fun m acc => lgStep 2 m acc fun m acc => lgStep 1 m acc fun m acc => acc
def lgW (m : Nat) : Nat :=
  bif Nat.beq (Nat.shiftRight m 128) 0 then lg7 m 0 else
  bif Nat.beq (Nat.shiftRight m 4096) 0 then lgStep 2048 m 0 fun m acc => lgStep 1024 m acc fun m acc => lgStep 512 m acc fun m acc => lgStep 256 m acc fun m acc => lgStep 128 m acc lg7
  else Nat.log2 m

theorem log2_shift {m k : Nat} (h : m >>> k ≠ 0) : m.log2 = (m >>> k).log2 + k := by
  rw [Nat.shiftRight_eq_div_pow] at h ⊢
  have hm : m ≠ 0 := fun e => by subst e; simp at h
  have hp : 0 < 2 ^ k := Nat.two_pow_pos k
  have h1 := Nat.log2_self_le h
  have h2 : m / 2 ^ k < 2 ^ ((m / 2 ^ k).log2 + 1) := Nat.lt_log2_self
  have h3 : 2 ^ ((m / 2 ^ k).log2 + k) ≤ m := by
    rw [Nat.pow_add]
    exact Nat.le_trans (Nat.mul_le_mul_right _ h1) (Nat.div_mul_le_self m _)
  have h4 : m < 2 ^ ((m / 2 ^ k).log2 + k + 1) := by
    rw [show (m / 2 ^ k).log2 + k + 1 = (m / 2 ^ k).log2 + 1 + k by omega, Nat.pow_add]
    exact (Nat.div_lt_iff_lt_mul hp).1 h2
  have h5 := (Nat.le_log2 hm).2 h3
  have h6 := (Nat.log2_lt hm).2 h4
  omega
theorem lgStep_eq {k n m acc : Nat} {next : Nat → Nat → Nat} (hm : m < 2 ^ (n + k)) (hk : n ≤ k) (hnext : ∀ m acc, m < 2 ^ k → next m acc = m.log2 + acc) (hkk : n = k) : lgStep k m acc next = m.log2 + acc := by
  unfold lgStep
  rw [forceN_eq, nb]
  show (bif decide (m >>> k = 0) then next m acc else next (m >>> k) (acc + k)) = _
  by_cases h : m >>> k = 0
  · have : decide (m >>> k = 0) = true := by simp [h]
    rw [this]
    rw [Nat.shiftRight_eq_div_pow] at h
    have hp : 0 < 2 ^ k := Nat.two_pow_pos k
    have : m < 2 ^ k := by
      rcases Nat.lt_or_ge m (2 ^ k) with g | g
      · exact g
      · have := Nat.div_pos g hp; omega
    exact hnext m acc this
  · have : decide (m >>> k = 0) = false := by simp [h]
    rw [this, cond_false, hnext, log2_shift h]
    · omega
    · rw [Nat.shiftRight_eq_div_pow]
      subst hkk
      rw [Nat.pow_add] at hm
      exact (Nat.div_lt_iff_lt_mul (Nat.two_pow_pos n)).2 hm
theorem lg7_eq {m acc : Nat} (h : m < 2 ^ 128) : lg7 m acc = m.log2 + acc := by
  unfold lg7
  refine lgStep_eq (n := 64) h (by decide) (fun m acc h => ?_) rfl
  refine lgStep_eq (n := 32) h (by decide) (fun m acc h => ?_) rfl
  refine lgStep_eq (n := 16) h (by decide) (fun m acc h => ?_) rfl
  refine lgStep_eq (n := 8) h (by decide) (fun m acc h => ?_) rfl
  refine lgStep_eq (n := 4) h (by decide) (fun m acc h => ?_) rfl
  refine lgStep_eq (n := 2) h (by decide) (fun m acc h => ?_) rfl
  refine lgStep_eq (n := 1) h (by decide) (fun m acc h => ?_) rfl
  have : m = 0 ∨ m = 1 := by omega
  rcases this with rfl | rfl
  · simp
  · rw [show Nat.log2 1 = 0 by decide]; omega
theorem shift_zero {m k : Nat} (h : m >>> k = 0) : m < 2 ^ k := by
  rw [Nat.shiftRight_eq_div_pow] at h
  rcases Nat.lt_or_ge m (2 ^ k) with g | g
  · exact g
  · have := Nat.div_pos g (Nat.two_pow_pos k); omega
theorem lgUp {j k : Nat} (hj : j = k + k) {next : Nat → Nat → Nat} (hnext : ∀ m acc, m < 2 ^ k → next m acc = m.log2 + acc) : ∀ m acc, m < 2 ^ j → lgStep k m acc next = m.log2 + acc := fun m acc h => by
  subst hj
  exact lgStep_eq (n := k) h (Nat.le_refl _) hnext rfl
theorem shift_zero' {m k j : Nat} (hj : j = k) (h : m >>> k = 0) : m < 2 ^ j := by subst hj; exact shift_zero h
theorem lgW_eq (m : Nat) : lgW m = m.log2 := by
  have u128 : ∀ m acc, m < 2 ^ 128 → lg7 m acc = m.log2 + acc := fun m acc h => lg7_eq h
  generalize h1 : (4096 : Nat) = k4096
  have u256 := lgUp (j := 256) (k := 128) rfl u128
  generalize h256 : (256 : Nat) = k256 at u256
  have u512 := lgUp (j := 512) (k := k256) (by omega) u256
  generalize h512 : (512 : Nat) = k512 at u512
  have u1024 := lgUp (j := 1024) (k := k512) (by omega) u512
  generalize h1024 : (1024 : Nat) = k1024 at u1024
  have u2048 := lgUp (j := 2048) (k := k1024) (by omega) u1024
  generalize h2048 : (2048 : Nat) = k2048 at u2048
  have u4096 := lgUp (j := k4096) (k := k2048) (by omega) u2048
  unfold lgW
  rw [nb, nb, h1, h256, h512, h1024, h2048]
  show (bif decide (m >>> 128 = 0) then lg7 m 0 else bif decide (m >>> k4096 = 0) then _ else m.log2) = _
  by_cases h : m >>> 128 = 0
  · have e : decide (m >>> 128 = 0) = true := by simp only [h, decide_true]
    rw [e, cond_true, lg7_eq (shift_zero h)]
    omega
  · have e : decide (m >>> 128 = 0) = false := by simp only [h, decide_false]
    rw [e, cond_false]
    by_cases h2 : m >>> k4096 = 0
    · have e2 : decide (m >>> k4096 = 0) = true := by simp only [h2, decide_true]
      rw [e2, cond_true]
      exact (u4096 m 0 (shift_zero h2)).trans (by omega)
    · have e2 : decide (m >>> k4096 = 0) = false := by simp only [h2, decide_false]
      rw [e2]
      rfl

def cutW (n drop : Nat) : Nat :=
  forceN n fun n => forceN drop fun drop => forceN (Nat.add (lgW n) 2) fun lg => forceN (Nat.shiftLeft 1 (bif Nat.ble drop lg then drop else lg)) fun g =>
  forceN (Nat.div n g) fun low => forceN (Nat.mul 2 (Nat.mod n g)) fun rest =>
  bif Nat.blt g rest then Nat.succ low else bif Nat.beq g rest then (bif Nat.beq (Nat.mod low 2) 1 then Nat.succ low else low) else low

theorem cutW_eq (neg : Bool) (n drop : Nat) : cutW n drop = Toward.even.cut neg n drop := by
  unfold cutW Toward.cut
  simp only [forceN_eq, nb, nl, nle, lgW_eq]
  have hm : (bif decide (drop ≤ Nat.add n.log2 2) then drop else Nat.add n.log2 2) = min drop (n.log2 + 2) := by
    show (bif decide (drop ≤ n.log2 + 2) then drop else n.log2 + 2) = _
    by_cases h : drop ≤ n.log2 + 2
    · simp [h]
    · simp [h]; omega
  rw [hm]
  show (bif decide ((1 <<< min drop (n.log2 + 2)) < 2 * (n % (1 <<< min drop (n.log2 + 2)))) then Nat.succ (n / (1 <<< min drop (n.log2 + 2))) else
    bif decide ((1 <<< min drop (n.log2 + 2)) = 2 * (n % (1 <<< min drop (n.log2 + 2)))) then (bif decide (n / (1 <<< min drop (n.log2 + 2)) % 2 = 1) then Nat.succ (n / (1 <<< min drop (n.log2 + 2))) else n / (1 <<< min drop (n.log2 + 2))) else n / (1 <<< min drop (n.log2 + 2))) = _
  generalize 1 <<< min drop (n.log2 + 2) = g
  generalize n / g = low
  generalize 2 * (n % g) = rest
  by_cases h1 : g < rest
  · simp [h1]
  · by_cases h2 : g = rest
    · by_cases h3 : low % 2 = 1
      · simp [h1, h2, h3]
      · simp [h1, h2, h3]
    · simp [h1, h2]

def nearG (c52 c63 ci B : Nat) (neg : Bool) (m P : Nat) : Nat :=
  forceN m fun m => forceN P fun P => bif Nat.beq m 0 then (bif neg then c63 else 0) else
  forceN (Nat.add P (lgW m)) fun Q => forceN (bif Nat.ble (Nat.add B 52) (Nat.add Q 1074) then Nat.sub Q 52 else Nat.sub B 1074) fun L =>
  forceN (bif Nat.ble L P then Nat.shiftLeft m (Nat.sub P L) else cutW m (Nat.sub L P)) fun kept =>
  forceN (Nat.add (Nat.mul (Nat.sub (Nat.add L 1074) B) c52) kept) fun r =>
  forceN (bif Nat.ble r ci then r else ci) fun r =>
  bif neg then Nat.add c63 r else r
def nearW (B : Nat) (neg : Bool) (m P : Nat) : Nat := nearG 4503599627370496 9223372036854775808 9218868437227405312 B neg m P

theorem cut_none (neg : Bool) (q : Nat) : Toward.even.cut neg q 0 = q := by
  unfold Toward.cut
  simp [Nat.mod_one]

theorem nearG_eq {c52 c63 ci B : Nat} (e1 : double.signWeight = c63) (e2 : double.binade = c52) (e3 : double.infRung = ci) (hB : 1126 ≤ B) (neg : Bool) (m P : Nat) : nearG c52 c63 ci B neg m P = double.nearest neg m ((P : Int) - B) := by
  have e4 : double.leastPlace = -1074 := by decide
  have e5 : double.fractionBits = 52 := rfl
  unfold nearG Format.nearest Format.word
  simp only [forceN_eq, nb, nle, lgW_eq, e1, e2, e3, e4, e5]
  by_cases hm : m = 0
  · rw [if_pos hm]
    have : decide (m = 0) = true := by simp [hm]
    rw [this]
    cases neg <;> simp
  · rw [if_neg hm]
    have : decide (m = 0) = false := by simp [hm]
    rw [this]
    simp only [cond_false]
    have hL : (((bif decide (Nat.add B 52 ≤ Nat.add (Nat.add P m.log2) 1074) then Nat.sub (Nat.add P m.log2) 52 else Nat.sub B 1074) : Nat) : Int) = max ((P : Int) - B + m.log2 - (52 : Nat)) (-1074) + B := by
      show (((bif decide (B + 52 ≤ P + m.log2 + 1074) then P + m.log2 - 52 else B - 1074) : Nat) : Int) = _
      by_cases h : B + 52 ≤ P + m.log2 + 1074
      · simp only [h, decide_true, cond_true]; omega
      · simp only [h, decide_false, cond_false]; omega
    generalize (bif decide (Nat.add B 52 ≤ Nat.add (Nat.add P m.log2) 1074) then Nat.sub (Nat.add P m.log2) 52 else Nat.sub B 1074) = L at *
    have hmax : max ((P : Int) - B + m.log2 - (52 : Nat)) (-1074) = (L : Int) - B := by omega
    rw [hmax]
    have hk : (bif decide (L ≤ P) then Nat.shiftLeft m (Nat.sub P L) else cutW m (Nat.sub L P)) = Toward.even.cut neg (m <<< ((P : Int) - B - ((L : Int) - B)).toNat) ((L : Int) - B - ((P : Int) - B)).toNat := by
      by_cases h : L ≤ P
      · simp only [h, decide_true, cond_true]
        have d0 : ((L : Int) - B - ((P : Int) - B)).toNat = 0 := by omega
        have d1 : ((P : Int) - B - ((L : Int) - B)).toNat = P - L := by omega
        rw [d0, d1, cut_none]
        rfl
      · simp only [h, decide_false, cond_false]
        have d0 : ((L : Int) - B - ((P : Int) - B)).toNat = L - P := by omega
        have d1 : ((P : Int) - B - ((L : Int) - B)).toNat = 0 := by omega
        rw [d0, d1, cutW_eq neg]
        rfl
    rw [hk]
    generalize Toward.even.cut neg (m <<< ((P : Int) - B - ((L : Int) - B)).toNat) ((L : Int) - B - ((P : Int) - B)).toNat = kept
    have hr : ((L : Int) - B - -1074).toNat = L + 1074 - B := by omega
    rw [hr]
    have hrr : Nat.add (Nat.mul (Nat.sub (Nat.add L 1074) B) c52) kept = (L + 1074 - B) * c52 + kept := rfl
    rw [hrr]
    generalize (L + 1074 - B) * c52 + kept = r
    have hmin : (bif decide (r ≤ ci) then r else ci) = min r ci := by
      by_cases h : r ≤ ci
      · simp only [h, decide_true, cond_true]; omega
      · simp only [h, decide_false, cond_false]; omega
    rw [hmin]
    cases neg
    · rfl
    · rfl
theorem nearW_eq {B : Nat} (hB : 1126 ≤ B) (neg : Bool) (m P : Nat) : nearW B neg m P = double.nearest neg m ((P : Int) - B) :=
  nearG_eq (by decide) (by decide) (by decide) hB neg m P

def mulW (a b : Nat) : Option Nat :=
  bif finW a && finW b then forceN (mantW a) fun ma => forceN (mantW b) fun mb => some (nearW 2148 (sgnW a ^^ sgnW b) (Nat.mul ma mb) (Nat.add (plcW a) (plcW b))) else double.mul a b
theorem mulW_eq (a b : Nat) : mulW a b = double.mul a b := by
  unfold mulW
  cases h : (finW a && finW b) with
  | false => rfl
  | true =>
    simp only [Bool.and_eq_true] at h
    simp only [cond_true, forceN_eq]
    unfold Format.mul
    rw [read_fast h.1, read_fast h.2, nearW_eq (by decide)]
    have e : (((Nat.add (plcW a) (plcW b) : Nat)) : Int) - (2148 : Nat) = (plcW a : Int) - 1074 + ((plcW b : Int) - 1074) := by
      show (((plcW a + plcW b : Nat)) : Int) - (2148 : Nat) = _
      omega
    rw [e]
    rfl

def sumW (s t : Bool) (m n p q : Nat) : Nat :=
  forceN (bif Nat.ble p q then p else q) fun base => forceN (Nat.shiftLeft m (Nat.sub p base)) fun x => forceN (Nat.shiftLeft n (Nat.sub q base)) fun y =>
  bif s ^^ t then
    (bif Nat.blt y x then nearW 1126 s (Nat.sub x y) (Nat.add base 52) else bif Nat.blt x y then nearW 1126 t (Nat.sub y x) (Nat.add base 52) else 0)
  else nearW 1126 s (Nat.add x y) (Nat.add base 52)
theorem sumW_eq (s t : Bool) (m n p q : Nat) : (Datum.sum (.number s m ((p : Int) - 1074)) (.number t n ((q : Int) - 1074))).map double.write = some (sumW s t m n p q) := by
  unfold sumW Datum.sum
  simp only [forceN_eq, nl, nle]
  have hb : min ((p : Int) - 1074) ((q : Int) - 1074) = ((bif decide (p ≤ q) then p else q : Nat) : Int) - 1074 := by
    by_cases h : p ≤ q
    · simp only [h, decide_true, cond_true]; exact Int.min_eq_left (by omega)
    · simp only [h, decide_false, cond_false]; exact Int.min_eq_right (by omega)
  rw [hb]
  have hle : (bif decide (p ≤ q) then p else q) ≤ p ∧ (bif decide (p ≤ q) then p else q) ≤ q := by
    by_cases h : p ≤ q
    · have e : decide (p ≤ q) = true := by simp [h]
      rw [e]; exact ⟨Nat.le_refl _, h⟩
    · have e : decide (p ≤ q) = false := by simp [h]
      rw [e]; exact ⟨by simp only [cond_false]; omega, Nat.le_refl _⟩
  generalize (bif decide (p ≤ q) then p else q) = base at *
  have d1 : ((p : Int) - 1074 - ((base : Int) - 1074)).toNat = p - base := by omega
  have d2 : ((q : Int) - 1074 - ((base : Int) - 1074)).toNat = q - base := by omega
  rw [d1, d2]
  show Option.map double.write (some (Datum.number _ _ _)) = some _
  rw [Option.map_some]
  congr 1
  show double.nearest _ _ _ = _
  have w1 : ∀ (neg : Bool) (k : Nat), nearW 1126 neg k (Nat.add base 52) = double.nearest neg k ((base : Int) - 1074) := fun neg k => by
    rw [nearW_eq (by decide)]
    congr 1
    show ((base + 52 : Nat) : Int) - (1126 : Nat) = _
    omega
  simp only [w1]
  show double.nearest (if signed s m (p - base) + signed t n (q - base) = 0 then s && t else decide (signed s m (p - base) + signed t n (q - base) < 0)) (signed s m (p - base) + signed t n (q - base)).natAbs ((base : Int) - 1074) =
    (bif s ^^ t then (bif decide (n <<< (q - base) < m <<< (p - base)) then double.nearest s (m <<< (p - base) - n <<< (q - base)) ((base : Int) - 1074) else bif decide (m <<< (p - base) < n <<< (q - base)) then double.nearest t (n <<< (q - base) - m <<< (p - base)) ((base : Int) - 1074) else 0)
    else double.nearest s (m <<< (p - base) + n <<< (q - base)) ((base : Int) - 1074))
  unfold signed
  generalize m <<< (p - base) = x
  generalize n <<< (q - base) = y
  have z0 : double.nearest false 0 ((base : Int) - 1074) = 0 := by
    unfold Format.nearest Format.word
    rw [if_pos rfl]
    rfl
  cases s <;> cases t
  · simp only [Bool.false_eq_true, if_false, Bool.xor_self, cond_false]
    by_cases h : (x : Int) + y = 0
    · rw [if_pos h]
      have : ((x : Int) + y).natAbs = x + y := by omega
      rw [this]; rfl
    · rw [if_neg h]
      have : ((x : Int) + y).natAbs = x + y := by omega
      rw [this]
      have : decide ((x : Int) + y < 0) = false := by simp; omega
      rw [this]
  · simp only [Bool.false_eq_true, if_false, if_true, Bool.false_xor, cond_true]
    by_cases h1 : y < x
    · rw [if_neg (by omega)]
      simp only [h1, decide_true, cond_true]
      have : ((x : Int) + -(y : Int)).natAbs = x - y := by omega
      rw [this]
      have : decide ((x : Int) + -(y : Int) < 0) = false := by simp; omega
      rw [this]
    · by_cases h2 : x < y
      · rw [if_neg (by omega)]
        simp only [h1, h2, decide_true, decide_false, cond_true, cond_false]
        have : ((x : Int) + -(y : Int)).natAbs = y - x := by omega
        rw [this]
        have : decide ((x : Int) + -(y : Int) < 0) = true := by simp; omega
        rw [this]
      · rw [if_pos (by omega)]
        simp only [h1, h2, decide_false, cond_false]
        have : ((x : Int) + -(y : Int)).natAbs = 0 := by omega
        rw [this]
        exact z0
  · simp only [Bool.false_eq_true, if_false, if_true, Bool.xor_false, cond_true]
    by_cases h1 : y < x
    · rw [if_neg (by omega)]
      simp only [h1, decide_true, cond_true]
      have : (-(x : Int) + (y : Int)).natAbs = x - y := by omega
      rw [this]
      have : decide (-(x : Int) + (y : Int) < 0) = true := by simp; omega
      rw [this]
    · by_cases h2 : x < y
      · rw [if_neg (by omega)]
        simp only [h1, h2, decide_true, decide_false, cond_true, cond_false]
        have : (-(x : Int) + (y : Int)).natAbs = y - x := by omega
        rw [this]
        have : decide (-(x : Int) + (y : Int) < 0) = false := by simp; omega
        rw [this]
      · rw [if_pos (by omega)]
        simp only [h1, h2, decide_false, cond_false]
        have : (-(x : Int) + (y : Int)).natAbs = 0 := by omega
        rw [this]
        exact z0
  · simp only [if_true, Bool.xor_self, cond_false]
    by_cases h : -(x : Int) + -(y : Int) = 0
    · rw [if_pos h]
      have : (-(x : Int) + -(y : Int)).natAbs = x + y := by omega
      rw [this]; rfl
    · rw [if_neg h]
      have : (-(x : Int) + -(y : Int)).natAbs = x + y := by omega
      rw [this]
      have : decide (-(x : Int) + -(y : Int) < 0) = true := by simp; omega
      rw [this]

def addW (a b : Nat) : Option Nat :=
  bif finW a && finW b then forceN (mantW a) fun ma => forceN (mantW b) fun mb => forceN (plcW a) fun pa => forceN (plcW b) fun pb => some (sumW (sgnW a) (sgnW b) ma mb pa pb) else double.add a b
theorem addW_eq (a b : Nat) : addW a b = double.add a b := by
  unfold addW
  cases h : (finW a && finW b) with
  | false => rfl
  | true =>
    simp only [Bool.and_eq_true] at h
    simp only [cond_true, forceN_eq]
    unfold Format.add
    rw [read_fast h.1, read_fast h.2, sumW_eq]
def subW (a b : Nat) : Option Nat :=
  bif finW a && finW b then forceN (mantW a) fun ma => forceN (mantW b) fun mb => forceN (plcW a) fun pa => forceN (plcW b) fun pb => some (sumW (sgnW a) (!sgnW b) ma mb pa pb) else double.sub a b
theorem subW_eq (a b : Nat) : subW a b = double.sub a b := by
  unfold subW
  cases h : (finW a && finW b) with
  | false => rfl
  | true =>
    simp only [Bool.and_eq_true] at h
    simp only [cond_true, forceN_eq]
    unfold Format.sub
    rw [read_fast h.1, read_fast h.2]
    show _ = (Datum.sum (.number (sgnW a) (mantW a) ((plcW a : Int) - 1074)) (.number (!sgnW b) (mantW b) ((plcW b : Int) - 1074))).map double.write
    rw [sumW_eq]

def divW (a b : Nat) : Option Nat :=
  bif finW a && finW b then forceN (mantW a) fun m => forceN (mantW b) fun n =>
    bif Nat.beq n 0 then double.div a b else
    forceN (Nat.sub (Nat.add 54 (lgW n)) (lgW m)) fun more => forceN (Nat.shiftLeft m more) fun d =>
    some (nearW 4000 (sgnW a ^^ sgnW b) (Nat.add (Nat.mul 2 (Nat.div d n)) (bif Nat.beq (Nat.mod d n) 0 then 0 else 1)) (Nat.sub (Nat.add (plcW a) 3999) (Nat.add (plcW b) more)))
  else double.div a b
theorem divW_eq (a b : Nat) : divW a b = double.div a b := by
  unfold divW
  cases h : (finW a && finW b) with
  | false => rfl
  | true =>
    simp only [Bool.and_eq_true] at h
    simp only [cond_true, forceN_eq, nb, lgW_eq]
    by_cases hn : mantW b = 0
    · simp only [hn, decide_true, cond_true]
    · simp only [hn, decide_false, cond_false]
      unfold Format.div
      rw [read_fast h.1, read_fast h.2]
      unfold Datum.quotient
      simp only [hn, if_false]
      show some _ = some _
      congr 1
      rw [nearW_eq (by decide)]
      show double.nearest _ _ _ = double.nearest _ _ _
      have hmm : Nat.sub (Nat.add 54 (mantW b).log2) (mantW a).log2 = double.fractionBits + 2 + (mantW b).log2 - (mantW a).log2 := rfl
      rw [hmm]
      have hp : plcW b ≤ 2046 := by
        have hb := h.2
        unfold finW at hb
        rw [nl] at hb
        have : expoW b < 2047 := by simpa using hb
        show expoW b - 1 ≤ 2046
        omega
      have hl : (mantW b).log2 ≤ 53 := by
        have : mantW b < 2 ^ 54 := by
          unfold mantW
          have : Nat.mod b 4503599627370496 < 4503599627370496 := Nat.mod_lt _ (by decide)
          cases Nat.beq (expoW b) 0
          · show 4503599627370496 + Nat.mod b 4503599627370496 < 2 ^ 54; omega
          · show Nat.mod b 4503599627370496 < 2 ^ 54; omega
        have := (Nat.log2_lt hn).2 this
        omega
      have hf : double.fractionBits = 52 := rfl
      have hmore : double.fractionBits + 2 + (mantW b).log2 - (mantW a).log2 ≤ 107 := by omega
      generalize double.fractionBits + 2 + (mantW b).log2 - (mantW a).log2 = more at *
      congr 1
      · show 2 * (mantW a <<< more / mantW b) + (bif decide (mantW a <<< more % mantW b = 0) then 0 else 1) = _
        by_cases g : mantW a <<< more % mantW b = 0
        · simp [g]
        · have g2 : ((mantW a <<< more) % mantW b != 0) = true := by simpa using g
          have g3 : decide ((mantW a <<< more) % mantW b = 0) = false := by simpa using g
          rw [g2, g3]
          rfl
      · show ((plcW a + 3999 - (plcW b + more) : Nat) : Int) - (4000 : Nat) = _
        omega

/-- the arithmetic of words -/
def fbF (op : BinOp) (a b : Nat) : Option Nat :=
  match op with
  | .add => addW a b
  | .sub => subW a b
  | .mul => mulW a b
  | .quo => divW a b
  | op => floatBits op .f64 a b
theorem fbF_eq (op : BinOp) (a b : Nat) : fbF op a b = floatBits op .f64 a b := by
  unfold fbF
  split
  · rw [addW_eq]; rfl
  · rw [subW_eq]; rfl
  · rw [mulW_eq]; rfl
  · rw [divW_eq]; rfl
  · rfl

/-- how two words stand to each other -/
def ordW (a b : Nat) : Option Ordering :=
  bif finW a && finW b then
    forceN (mantW a) fun m => forceN (mantW b) fun n => forceN (plcW a) fun p => forceN (plcW b) fun q =>
    forceN (bif Nat.ble p q then p else q) fun base => forceN (Nat.shiftLeft m (Nat.sub p base)) fun x => forceN (Nat.shiftLeft n (Nat.sub q base)) fun y =>
    bif sgnW a then
      (bif sgnW b then (bif Nat.beq x y then some .eq else bif Nat.blt y x then some .lt else some .gt)
       else (bif Nat.beq x 0 && Nat.beq y 0 then some .eq else some .lt))
    else
      (bif sgnW b then (bif Nat.beq x 0 && Nat.beq y 0 then some .eq else some .gt)
       else (bif Nat.beq x y then some .eq else bif Nat.blt x y then some .lt else some .gt))
  else double.order a b
theorem cmp_int (x y : Int) : compare x y = if x < y then .lt else if x = y then .eq else .gt := by
  show compareOfLessAndEq x y = _
  rfl
theorem ordW_eq (a b : Nat) : ordW a b = double.order a b := by
  unfold ordW
  cases h : (finW a && finW b) with
  | false => rfl
  | true =>
    simp only [Bool.and_eq_true] at h
    simp only [cond_true, forceN_eq, nb, nl, nle]
    unfold Format.order
    rw [read_fast h.1, read_fast h.2]
    unfold Datum.order
    simp only
    generalize plcW a = p
    generalize plcW b = q
    generalize mantW a = m
    generalize mantW b = n
    have hb : min ((p : Int) - 1074) ((q : Int) - 1074) = ((bif decide (p ≤ q) then p else q : Nat) : Int) - 1074 := by
      by_cases h : p ≤ q
      · simp only [h, decide_true, cond_true]; exact Int.min_eq_left (by omega)
      · simp only [h, decide_false, cond_false]; exact Int.min_eq_right (by omega)
    rw [hb]
    have hle : (bif decide (p ≤ q) then p else q) ≤ p ∧ (bif decide (p ≤ q) then p else q) ≤ q := by
      by_cases h : p ≤ q
      · have e : decide (p ≤ q) = true := by simp [h]
        rw [e]; exact ⟨Nat.le_refl _, h⟩
      · have e : decide (p ≤ q) = false := by simp [h]
        rw [e]; exact ⟨by simp only [cond_false]; omega, Nat.le_refl _⟩
    generalize (bif decide (p ≤ q) then p else q) = base at *
    have d1 : ((p : Int) - 1074 - ((base : Int) - 1074)).toNat = p - base := by omega
    have d2 : ((q : Int) - 1074 - ((base : Int) - 1074)).toNat = q - base := by omega
    rw [d1, d2, cmp_int]
    unfold signed
    show (bif sgnW a then (bif sgnW b then (bif decide (m <<< (p - base) = n <<< (q - base)) then some Ordering.eq else bif decide (n <<< (q - base) < m <<< (p - base)) then some .lt else some .gt) else (bif decide (m <<< (p - base) = 0) && decide (n <<< (q - base) = 0) then some .eq else some .lt))
      else (bif sgnW b then (bif decide (m <<< (p - base) = 0) && decide (n <<< (q - base) = 0) then some .eq else some .gt) else (bif decide (m <<< (p - base) = n <<< (q - base)) then some .eq else bif decide (m <<< (p - base) < n <<< (q - base)) then some .lt else some .gt))) = _
    generalize m <<< (p - base) = x
    generalize n <<< (q - base) = y
    cases sgnW a <;> cases sgnW b
    · simp only [cond_false, Bool.false_eq_true, if_false]
      by_cases g1 : x = y
      · subst g1; simp
      · by_cases g2 : x < y
        · simp [g1, g2]
        · have : ¬ ((x : Int) < y) := by omega
          have : ¬ ((x : Int) = y) := by omega
          rw [if_neg ‹_›, if_neg ‹_›]
          simp [g1, g2]
    · simp only [cond_false, cond_true, Bool.false_eq_true, if_false, if_true]
      by_cases g1 : x = 0 ∧ y = 0
      · obtain ⟨rfl, rfl⟩ := g1; simp
      · have g2 : (decide (x = 0) && decide (y = 0)) = false := by simp; omega
        rw [g2, if_neg (by omega), if_neg (by omega)]
        rfl
    · simp only [cond_false, cond_true, Bool.false_eq_true, if_false, if_true]
      by_cases g1 : x = 0 ∧ y = 0
      · obtain ⟨rfl, rfl⟩ := g1; simp
      · have g2 : (decide (x = 0) && decide (y = 0)) = false := by simp; omega
        rw [g2, if_pos (by omega)]
        rfl
    · simp only [cond_true, if_true]
      by_cases g1 : x = y
      · subst g1; simp
      · by_cases g2 : y < x
        · have q1 : -(x : Int) < -(y : Int) := by omega
          simp [g1, g2]
        · have q1 : ¬ (-(x : Int) < -(y : Int)) := by omega
          have q2 : ¬ (-(x : Int) = -(y : Int)) := by omega
          rw [if_neg q1, if_neg q2]
          simp [g1, g2]
end Go.Vm
namespace Go.Vm
set_option linter.unusedVariables false
set_option linter.unusedSimpArgs false

/-! ### Sem trees that look at nothing but the program -/
def calm {α : Type} (P : Program) : Sem α → Option α
  | .pure a => some a
  | .program k => calm P (k P)
  | .mark _ k => calm P k
  | _ => none

theorem calm_run {α : Type} {P : Program} : ∀ {s : Sem α} {x : α}, calm P s = some x → ∀ w, s.run P w = .ok x w
  | .pure a, x, h, w => by simp [calm] at h; subst h; rfl
  | .program k, x, h, w => calm_run (s := k P) h w
  | .mark m k, x, h, w => calm_run (s := k) h w
  | .load .., _, h, _ | .store .., _, h, _ | .new .., _, h, _ | .shape .., _, h, _ | .freeze .., _, h, _ | .frozen .., _, h, _
  | .getObj .., _, h, _ | .setObj .., _, h, _ | .choose .., _, h, _ | .sys .., _, h, _ | .halt .., _, h, _ => by simp [calm] at h

/-! ### Numbers brought to their literal -/
def forceI {R : Type} (n : Int) (k : Int → R) : R := match n with | .ofNat a => forceN a fun a => k (.ofNat a) | .negSucc a => forceN a fun a => k (.negSucc a)
theorem forceI_eq {R : Type} (n : Int) (k : Int → R) : forceI n k = k n := by cases n <;> simp [forceI, forceN_eq]
/-- how a whole number is brought to its literal: a real way, or a variable -/
abbrev Fi := ∀ R : Type, Int → (Int → Option R) → Option R
def Fi.Fair (fi : Fi) : Prop := ∀ (R : Type) (n : Int) (k : Int → Option R), fi R n k = k n
def fiReal : Fi := fun R n k => forceI n k
theorem fiReal_fair : Fi.Fair fiReal := fun R n k => forceI_eq n k
def forceB {R : Type} (b : Bool) (k : Bool → R) : R := match b with | true => k true | false => k false
theorem forceB_eq {R : Type} (b : Bool) (k : Bool → R) : forceB b k = k b := by cases b <;> rfl
def bindF {R : Type} (o : Option Nat) (k : Nat → Option R) : Option R := o.bind fun n => forceN n k
theorem bindF_some {R : Type} {o : Option Nat} {k : Nat → Option R} {r : R} (h : bindF o k = some r) : ∃ n, o = some n ∧ k n = some r := by
  cases o with
  | none => simp [bindF] at h
  | some n => exact ⟨n, rfl, by simpa [bindF, forceN_eq] using h⟩
theorem bind_some' {α R : Type} {o : Option α} {k : α → Option R} {r : R} (h : o.bind k = some r) : ∃ n, o = some n ∧ k n = some r := by
  cases o with
  | none => simp at h
  | some n => exact ⟨n, rfl, by simpa using h⟩

/-! ### Operands -/
def opd (e : Env) : Operand → Option Value
  | .tmp t => getE t e
  | .const v => bif flat v then some v else none
  | .global _ => none
  | .func f => some (.func (.func f) #[] #[])

theorem opd_rel {ρ : Map} {e : Env} {a : Act} (he : EnvRel ρ e a.tmps) {x : Operand} {v : Value} (h : opd e x = some v) : VRel ρ v (a.eval x) := by
  cases x with
  | tmp t =>
    obtain ⟨v', h1, h2⟩ := he t v h
    simp only [Act.eval, Array.getD_eq_getD_getElem?, h1, Option.getD_some]
    exact h2
  | const u =>
    simp only [opd] at h
    cases hf : flat u with
    | true => simp [hf] at h; subst h; exact VRel.ofFlat ρ hf
    | false => simp [hf] at h
  | global g => simp [opd] at h
  | func f => simp [opd] at h; subst h; exact .func _ .nil .nil

/-- What one operation does, told of the abstract and of the concrete state. -/
def Done (P : Program) (lo : Nat) (o : Oper) (a : Act) (ρ : Map) (H : AH) (w : World) (v : Value) (H' : AH) : Prop :=
  ∃ ρ' w' v' n, (execOp a.eval o).run P w = .ok n w' ∧ (n = .value v' ∨ (n = .skip ∧ v' = undef)) ∧ Next lo ρ H w ρ' H' w' ∧ VRel ρ' v v'

theorem Done.calm {P : Program} {lo : Nat} {o : Oper} {a : Act} {ρ : Map} {H : AH} {w : World} {v v' : Value} (hi : Inv ρ H w)
    (hr : (execOp a.eval o).run P w = .ok (.value v') w) (hv : VRel ρ v v') : Done P lo o a ρ H w v H :=
  ⟨ρ, w, v', _, hr, .inl rfl, Next.refl hi, hv⟩

/-! ### Lists of related values -/
theorem VRels.length {ρ : Map} : ∀ {v v' : List Value}, VRels ρ v v' → v'.length = v.length
  | _, _, .nil => rfl
  | _, _, .cons _ hs => by simp [hs.length]
theorem VRels.append {ρ : Map} : ∀ {a a' b b' : List Value}, VRels ρ a a' → VRels ρ b b' → VRels ρ (a ++ b) (a' ++ b')
  | _, _, _, _, .nil, h => h
  | _, _, _, _, .cons h hs, g => .cons h (hs.append g)
theorem VRels.drop {ρ : Map} : ∀ {a a' : List Value} (n : Nat), VRels ρ a a' → VRels ρ (a.drop n) (a'.drop n)
  | _, _, 0, h => h
  | _, _, n + 1, .nil => .nil
  | _, _, n + 1, .cons _ hs => by simpa using hs.drop n
theorem VRels.take {ρ : Map} : ∀ {a a' : List Value} (n : Nat), VRels ρ a a' → VRels ρ (a.take n) (a'.take n)
  | _, _, 0, _ => .nil
  | _, _, n + 1, .nil => .nil
  | _, _, n + 1, .cons h hs => by simpa using .cons h (hs.take n)
theorem VRels.get {ρ : Map} : ∀ {a a' : List Value} (n : Nat) {v : Value}, VRels ρ a a' → a[n]? = some v → ∃ v', a'[n]? = some v' ∧ VRel ρ v v'
  | _, _, _, _, .nil, h => by simp at h
  | _, _, 0, _, .cons h _, e => by simp at e; subst e; exact ⟨_, rfl, h⟩
  | _, _, n + 1, _, .cons _ hs, e => by simpa using hs.get n (by simpa using e)

theorem VRel.oneCell {ρ : Map} {v v' : Value} (h : VRel ρ v v') (h1 : v.oneCell' = true) : v'.oneCell' = true := by
  cases h <;> simp_all [Value.oneCell']

/-- The cells of a value. -/
theorem VRel.cells {ρ : Map} {v v' : Value} (h : VRel ρ v v') : VRels ρ v.cells.toList v'.cells.toList := by
  cases h with
  | agg h => simpa [Value.cells] using h
  | bool b => exact .cons (.bool b) .nil
  | int k n => exact .cons (.int k n) .nil
  | float n => exact .cons (.float n) .nil
  | nan n h => exact .cons (.nan n h) .nil
  | complex x y => exact .cons (.complex x y) .nil
  | cnan h g => exact .cons (.cnan h g) .nil
  | string s => exact .cons (.string s) .nil
  | nilPtr => exact .cons .nilPtr .nil
  | ptr h => exact .cons (.ptr h) .nil
  | nilSlice n c => exact .cons (.nilSlice n c) .nil
  | slice h => exact .cons (.slice h) .nil
  | nilMap => exact .cons .nilMap .nil
  | map h => exact .cons (.map h) .nil
  | nilFunc => exact .cons .nilFunc .nil
  | func f ha hb => exact .cons (.func f ha hb) .nil
  | nilIface => exact .cons .nilIface .nil
  | iface t h => exact .cons (.iface t h) .nil
  | tuple h => exact .cons (.tuple h) .nil

/-! ### Loads and stores -/
def isRowB (P : Program) (t : TypeId) : Bool :=
  match P.underlying t with
  | some (.struct _) => true
  | some (.array _ _) => true
  | _ => false

def loadE {R : Type} (P : Program) (t : TypeId) (cs : List Value) (off : Nat) (k : Value → Option R) : Option R :=
  bif isRowB P t then
    bif Nat.ble (off + P.cellsOf t) cs.length && !Nat.beq (P.cellsOf t) 0 then k (.agg ⟨(cs.drop off).take (P.cellsOf t)⟩) else none
  else bif (P.underlying t).isSome then (cs[off]?).bind k else none

theorem info_of_cells {P : Program} {t : TypeId} (h : P.cellsOf t ≠ 0) : (P.info? t).map (·.size) = some (P.cellsOf t) := by
  unfold Program.cellsOf at *
  cases hi : P.info? t with
  | none => simp [hi] at h
  | some i => simp

theorem run_loadVar_plain {P : Program} {t : TypeId} {d : TypeDesc} {ad : Addr} {v : Value} {w : World} (hu : P.underlying t = some d) (hd : d.isRow = false)
    (hc : w.cell? ad = some v) : (loadVar t ad).run P w = .ok v w := by
  have : (isAgg t).run P w = .ok false w := by
    unfold isAgg
    rw [Sem.run_bind, run_underlying hu w]
    cases d <;> simp_all
  simp [loadVar, this, hc]

theorem loadE_sound {R : Type} {P : Program} {t : TypeId} {cs : List Value} {off : Nat} {k : Value → Option R} {r : R} (h : loadE P t cs off k = some r) :
    ∃ v, k v = some r ∧ ∀ {ρ : Map} {s : Spot} {sz : Nat} {w : World}, OHas ρ (.cells cs sz) s w → ∃ v', (loadVar t ⟨s.b, s.d + off, none⟩).run P w = .ok v' w ∧ VRel ρ v v' := by
  have hcell : ∀ {arr : Array Value} {ty : TypeId} {cs' : List Value} {s : Spot} {w : World}, w.heap[s.b]? = some (.cells arr ty (0, 0)) → (∀ (i : Nat) v, cs'[i]? = some v → arr[s.d + i]? = some v) →
      ∀ (i : Nat) v, cs'[i]? = some v → w.cell? ⟨s.b, s.d + i, none⟩ = some v := fun hb hc i v hv => by
    simp [World.cell?, hb, hc i v hv]
  unfold loadE at h
  cases hrow : isRowB P t with
  | true =>
    simp only [hrow, cond_true] at h
    cases hlen : Nat.ble (off + P.cellsOf t) cs.length && !Nat.beq (P.cellsOf t) 0 with
    | false => simp [hlen] at h
    | true =>
      simp only [hlen, cond_true] at h
      simp only [Bool.and_eq_true, Nat.ble_eq, Bool.not_eq_true'] at hlen
      have hz : P.cellsOf t ≠ 0 := fun e => by have := hlen.2; simp [e] at this
      have hd : ∃ d, P.underlying t = some d ∧ d.isRow = true := by
        unfold isRowB at hrow
        split at hrow
        · exact ⟨_, ‹_›, rfl⟩
        · exact ⟨_, ‹_›, rfl⟩
        · cases hrow
      obtain ⟨d0, hu, hd0⟩ := hd
      refine ⟨_, h, fun {ρ s sz w} ho => ?_⟩
      obtain ⟨arr, ty, cs', hb, hr, hc, _⟩ := ho
      have hl : ((cs'.drop off).take (P.cellsOf t)).length = P.cellsOf t := by
        have := hr.length
        simp
        omega
      refine ⟨.agg ⟨(cs'.drop off).take (P.cellsOf t)⟩, ?_, .agg ((hr.drop off).take _)⟩
      refine run_loadVar_mid w s.b (s.d + off) t _ d0 (fun j v hv => ?_) hu hd0 (by rw [hl]; exact info_of_cells hz)
      rw [Nat.add_assoc]
      refine hcell hb hc (off + j) v ?_
      rw [List.getElem?_take] at hv
      split at hv
      · simpa [List.getElem?_drop] using hv
      · cases hv
  | false =>
    simp only [hrow, cond_false] at h
    cases hu : P.underlying t with
    | none => simp [hu] at h
    | some d0 =>
      simp only [hu, Option.isSome_some, cond_true] at h
      obtain ⟨v, h1, h2⟩ := bind_some' h
      have hd0 : d0.isRow = false := by
        unfold isRowB at hrow
        rw [hu] at hrow
        cases d0 <;> simp_all
      refine ⟨v, h2, fun {ρ s sz w} ho => ?_⟩
      obtain ⟨arr, ty, cs', hb, hr, hc, _⟩ := ho
      obtain ⟨v', h3, h4⟩ := hr.get off h1
      exact ⟨v', run_loadVar_plain hu hd0 (hcell hb hc off v' h3), h4⟩

def splice (cs : List Value) (off : Nat) (vs : List Value) : List Value := cs.take off ++ (vs ++ cs.drop (off + vs.length))

def allOne : List Value → Bool
  | [] => true
  | v :: r => v.oneCell' && allOne r

theorem allOne_rel {ρ : Map} : ∀ {v v' : List Value}, VRels ρ v v' → allOne v = true → ∀ x ∈ v', x.oneCell' = true
  | _, _, .nil, _ => by simp
  | _, _, .cons h hs, hx => by
    simp only [allOne, Bool.and_eq_true] at hx
    intro x hm
    rcases List.mem_cons.1 hm with rfl | hm
    · exact h.oneCell hx.1
    · exact allOne_rel hs hx.2 x hm

theorem VRels.splice {ρ : Map} {cs cs' vs vs' : List Value} (h : VRels ρ cs cs') (g : VRels ρ vs vs') (off : Nat) : VRels ρ (splice cs off vs) (splice cs' off vs') := by
  unfold Vm.splice
  rw [g.length]
  exact (h.take off).append (g.append (h.drop _))

theorem setCells_heap (b : Nat) : ∀ (vs : List Value) (o : Nat) (w : World) (arr : Array Value) (ty : TypeId) (fz : Nat × Nat), w.heap[b]? = some (.cells arr ty fz) →
    (w.setCells b o vs).heap[b]? = some (.cells (vs.zipIdx.foldl (fun a x => a.setIfInBounds (o + x.2) x.1) arr) ty fz) ∧ (∀ b' : Nat, b' ≠ b → (w.setCells b o vs).heap[b']? = w.heap[b']?) ∧
    (w.setCells b o vs).heap.size = w.heap.size ∧ (w.setCells b o vs).os = w.os ∧ (w.setCells b o vs).tape = w.tape ∧ (w.setCells b o vs).output = w.output
  | [], o, w, arr, ty, fz, h => ⟨by simpa [World.setCells] using h, fun _ _ => rfl, rfl, rfl, rfl, rfl⟩
  | v :: r, o, w, arr, ty, fz, h => by
    have h1 : (w.setCell ⟨b, o, none⟩ v).heap[b]? = some (.cells (arr.setIfInBounds o v) ty fz) := by
      simp [World.setCell, Array.getElem?_modify, h]
    obtain ⟨g1, g2, g3, g4, g5, g6⟩ := setCells_heap b r (o + 1) _ _ _ _ h1
    refine ⟨?_, fun b' hb' => ?_, ?_, g4, g5, g6⟩
    · rw [World.setCells, g1]
      congr 2
      rw [List.zipIdx_cons, List.foldl_cons]
      simp only [Nat.add_zero, Nat.zero_add]
      rw [List.zipIdx_succ, List.foldl_map]
      congr 1
      funext a x
      obtain ⟨x1, x2⟩ := x
      simp only
      congr 1
      omega
    · rw [World.setCells, g2 b' hb']
      simp only [World.setCell, Array.getElem?_modify]
      rw [if_neg (by simpa using Ne.symm hb')]
    · rw [World.setCells, g3]; simp

theorem foldl_set_get (vs : List Value) : ∀ (o : Nat) (arr : Array Value) (i : Nat), (vs.zipIdx.foldl (fun a x => a.setIfInBounds (o + x.2) x.1) arr)[i]? =
    if o ≤ i ∧ i < o + vs.length ∧ i < arr.size then vs[i - o]? else arr[i]? := by
  induction vs with
  | nil => intro o arr i; simp; intro h; omega
  | cons v r ih =>
    intro o arr i
    have : (((v :: r).zipIdx).foldl (fun a x => a.setIfInBounds (o + x.2) x.1) arr) = (r.zipIdx.foldl (fun a x => a.setIfInBounds (o + 1 + x.2) x.1) (arr.setIfInBounds o v)) := by
      rw [List.zipIdx_cons, List.foldl_cons]
      simp only [Nat.add_zero, Nat.zero_add]
      rw [List.zipIdx_succ, List.foldl_map]
      congr 1
      funext a x
      obtain ⟨x1, x2⟩ := x
      simp only
      congr 1
      omega
    rw [this, ih]
    simp only [Array.size_setIfInBounds, List.length_cons]
    by_cases h1 : o + 1 ≤ i ∧ i < o + 1 + r.length ∧ i < arr.size
    · rw [if_pos h1, if_pos (by omega)]
      rw [show i - o = (i - (o + 1)) + 1 by omega]
      simp
    · rw [if_neg h1]
      by_cases h2 : i = o
      · subst h2
        by_cases h3 : i < arr.size
        · rw [if_pos (by omega)]
          simp [h3]
        · rw [if_neg (by omega)]
          simp [h3]
      · rw [if_neg (by omega), Array.getElem?_setIfInBounds_ne (Ne.symm h2)]

def storeE {R : Type} (P : Program) (lo : Nat) (H : AH) (t : TypeId) (ad : Addr) (v : Value) (k : AH → Option R) : Option R :=
  match look ad.block H.objs with
  | some (.cells cs sz) =>
    bif Nat.ble lo ad.block && Nat.beq v.cells.toList.length (P.cellsOf t) && !Nat.beq (P.cellsOf t) 0 && Nat.ble (ad.off + v.cells.toList.length) cs.length && allOne v.cells.toList && ad.spot.isNone then
      k (H.put ad.block (.cells (splice cs ad.off v.cells.toList) sz))
    else none
  | _ => none

theorem splice_get {cs vs : List Value} {off i : Nat} (hl : off + vs.length ≤ cs.length) :
    (splice cs off vs)[i]? = if off ≤ i ∧ i < off + vs.length then vs[i - off]? else cs[i]? := by
  have h1 : (cs.take off).length = off := by simp; omega
  unfold splice
  by_cases ha : i < off
  · rw [if_neg (by omega), List.getElem?_append_left (by omega), List.getElem?_take, if_pos ha]
  · rw [List.getElem?_append_right (by omega), h1]
    by_cases hb : i < off + vs.length
    · rw [if_pos (by omega), List.getElem?_append_left (by omega)]
    · rw [if_neg (by omega), List.getElem?_append_right (by omega), List.getElem?_drop]
      congr 1
      omega

theorem splice_length {cs vs : List Value} {off : Nat} (hl : off + vs.length ≤ cs.length) : (splice cs off vs).length = cs.length := by
  simp [splice]; omega

theorem foldl_set_size (vs : List Value) (o : Nat) (arr : Array Value) : (vs.zipIdx.foldl (fun a x => a.setIfInBounds (o + x.2) x.1) arr).size = arr.size := by
  generalize vs.zipIdx = l
  induction l generalizing arr with
  | nil => rfl
  | cons x r ih => rw [List.foldl_cons, ih]; simp

theorem storeE_sound {R : Type} {P : Program} {lo : Nat} {H : AH} {t : TypeId} {ad : Addr} {v : Value} {k : AH → Option R} {r : R} (h : storeE P lo H t ad v k = some r) :
    ∃ H', k H' = some r ∧ ∀ {ρ : Map} {w : World} {ad' : Addr} {v' : Value}, Inv ρ H w → VRel ρ (.pointer (some ad)) (.pointer (some ad')) → VRel ρ v v' →
      ∃ w', (storeVar t ad' v').run P w = .ok () w' ∧ Next lo ρ H w ρ H' w' := by
  unfold storeE at h
  split at h
  · rename_i cs sz hl
    cases hc : (Nat.ble lo ad.block && Nat.beq v.cells.toList.length (P.cellsOf t) && !Nat.beq (P.cellsOf t) 0 && Nat.ble (ad.off + v.cells.toList.length) cs.length && allOne v.cells.toList && ad.spot.isNone) with
    | false => rw [hc] at h; cases h
    | true =>
      rw [hc] at h
      simp only [cond_true] at h
      simp only [Bool.and_eq_true, Nat.ble_eq, Nat.beq_eq, Bool.not_eq_true'] at hc
      obtain ⟨⟨⟨⟨⟨h1, h2⟩, h3⟩, h4⟩, h5⟩, h6⟩ := hc
      have hm := look_mem hl
      refine ⟨_, h, fun {ρ w ad' v'} hi hp hv => ?_⟩
      cases hp with
      | ptr hk =>
        rename_i kb o s
        simp only at *
        obtain ⟨s2, e1, e2⟩ := hi.rel.obj kb _ hm
        rw [hk] at e1
        obtain rfl : s = s2 := by simpa using e1
        obtain ⟨arr, ty, cs', hb, hr, hcc, hext, hx0⟩ := e2
        have hcl := hv.cells
        have hlen := hcl.length
        have hcslen := hr.length
        have hone := allOne_rel hcl h5
        have hcell : ∀ i, i < cs.length → ∃ u, arr[s.d + i]? = some u := fun i hi => by
          have hlt : i < cs'.length := by omega
          exact ⟨cs'[i], hcc i _ (by simp [hlt])⟩
        have hz : P.cellsOf t ≠ 0 := fun e => by simp [e] at h3
        have hst := run_storeCells_cells (P := P) s.b (s.d + o) v'.cells.toList 0 w (fun j hj => by
            obtain ⟨u, hu⟩ := hcell (o + j) (by omega)
            rw [show s.d + o + 0 + j = s.d + (o + j) by omega]
            simp [World.cell?, hb, hu]) (fun j hj => by simp [World.frozen?, hb]) hone
        simp only [Nat.add_zero] at hst
        obtain ⟨g1, g2, g3, g4, g5, g6⟩ := setCells_heap s.b v'.cells.toList (s.d + o) w arr ty (0, 0) hb
        refine ⟨w.setCells s.b (s.d + o) v'.cells.toList, ?_, Next.write hi hm h1 hk _ g3 g4 g5 g6 g2 ⟨_, ty, splice cs' o v'.cells.toList, g1, ?_, fun i u hu => ?_, ?_, hx0⟩⟩
        · have hi' := info_of_cells hz
          cases hq : P.info? t with
          | none => simp [hq] at hi'
          | some inf =>
            have hs : v'.cells.size = inf.size := by
              simp [hq] at hi'
              have : v'.cells.toList.length = v'.cells.size := by simp
              omega
            simp [storeVar, sizeOf, typeInfo, hq, hs, hst]
        · exact hr.splice hcl o
        · rw [splice_get (by omega)] at hu
          rw [foldl_set_get]
          split at hu
          · rename_i hin
            have : s.d + i < arr.size := by
              obtain ⟨u', hu'⟩ := hcell i (by omega)
              exact (Array.getElem?_eq_some_iff.1 hu').1
            rw [if_pos (by omega), show s.d + i - (s.d + o) = i - o by omega]
            exact hu
          · rename_i hout
            rw [if_neg (by omega)]
            exact hcc i u hu
        · rw [splice_length (by omega), foldl_set_size]
          exact hext
  · cases h

end Go.Vm
namespace Go.Vm
set_option linter.unusedVariables false
set_option linter.unusedSimpArgs false

def opds (e : Env) : List Operand → Option (List Value)
  | [] => some []
  | x :: r => (opd e x).bind fun v => (opds e r).bind fun vs => some (v :: vs)

theorem opds_rel {ρ : Map} {e : Env} {a : Act} (he : EnvRel ρ e a.tmps) : ∀ {xs : List Operand} {vs : List Value}, opds e xs = some vs → VRels ρ vs (xs.map a.eval)
  | [], vs, h => by simp [opds] at h; subst h; exact .nil
  | x :: r, vs, h => by
    obtain ⟨v, h1, h⟩ := bind_some' h
    obtain ⟨us, h2, h⟩ := bind_some' h
    cases h
    exact .cons (opd_rel he h1) (opds_rel he h2)

/-! ### Everything flat: the model's own operation -/
def notSelect : Op → Bool
  | .select .. => false
  | _ => true

def calmOp {R : Type} (P : Program) (e : Env) (H : AH) (o : Oper) (k : Value → AH → Option R) : Option R :=
  (opds e o.op.operands.toList).bind fun vs =>
    bif inns 0 vs && notSelect o.op then
      match calm P (execOp (fun x => (opd e x).getD undef) o) with
      | some (.value v) => bif flat v then k v H else none
      | _ => none
    else none

theorem opds_mem {e : Env} : ∀ {xs : List Operand} {vs : List Value}, opds e xs = some vs → ∀ x ∈ xs, ∃ v, opd e x = some v ∧ v ∈ vs
  | [], _, _, x, hx => by simp at hx
  | y :: r, vs, h, x, hx => by
    obtain ⟨v, h1, h⟩ := bind_some' h
    obtain ⟨us, h2, h⟩ := bind_some' h
    cases h
    rcases List.mem_cons.1 hx with rfl | hx
    · exact ⟨v, h1, by simp⟩
    · obtain ⟨u, g1, g2⟩ := opds_mem h2 x hx
      exact ⟨u, g1, by simp [g2]⟩

theorem inns_mem {n : Nat} : ∀ {vs : List Value}, inns n vs = true → ∀ v ∈ vs, inn n v = true
  | [], _, v, hv => by simp at hv
  | u :: r, h, v, hv => by
    simp only [inns, Bool.and_eq_true] at h
    rcases List.mem_cons.1 hv with rfl | hv
    · exact h.1
    · exact inns_mem h.2 v hv

theorem calmOp_sound {R : Type} {P : Program} {lo : Nat} {e : Env} {H : AH} {o : Oper} {k : Value → AH → Option R} {r : R} (h : calmOp P e H o k = some r) :
    ∃ v H', k v H' = some r ∧ ∀ {ρ : Map} {w : World} {a : Act}, Inv ρ H w → lo ≤ H.next → EnvRel ρ e a.tmps → Done P lo o a ρ H w v H' := by
  unfold calmOp at h
  obtain ⟨vs, h1, h⟩ := bind_some' h
  cases hc : (inns 0 vs && notSelect o.op) with
  | false => rw [hc] at h; cases h
  | true =>
    rw [hc] at h
    simp only [cond_true] at h
    simp only [Bool.and_eq_true] at hc
    split at h
    · rename_i v hcalm
      cases hf : flat v with
      | false => rw [hf] at h; cases h
      | true =>
        rw [hf] at h
        simp only [cond_true] at h
        refine ⟨v, H, h, fun {ρ w a} hi _ he => ?_⟩
        have hcong : execOp a.eval o = execOp (fun x => (opd e x).getD undef) o := by
          refine execOp_congr o (fun cs b e => ?_) fun x hx => ?_
          · rw [e] at hc; simp [notSelect] at hc
          · obtain ⟨u, g1, g2⟩ := opds_mem h1 x (by simpa using hx)
            have := (opd_rel he g1).flat_eq (inns_mem hc.1 u g2)
            simp [g1, this]
        exact Done.calm hi (by rw [hcong]; exact calm_run hcalm w) (VRel.ofFlat ρ hf)
    · cases h

/-! ### Numbers -/
def fcmp (op : BinOp) (x y : Nat) : Option Bool :=
  match op with
  | .eql => some (ordW x y == some .eq)
  | .neq => some (ordW x y != some .eq)
  | .lss => some (ordW x y == some .lt)
  | .leq => some (ordW x y == some .lt || ordW x y == some .eq)
  | .gtr => some (ordW x y == some .gt)
  | .geq => some (ordW x y == some .gt || ordW x y == some .eq)
  | _ => none

def icmp (op : BinOp) (x y : Int) : Option Bool :=
  match op with
  | .eql => some (x == y)
  | .neq => some (x != y)
  | .lss => some (decide (x < y))
  | .leq => some (decide (x ≤ y))
  | .gtr => some (decide (x > y))
  | .geq => some (decide (x ≥ y))
  | _ => none

def iarith (op : BinOp) (k : IntKind) (x y : Int) : Option Int :=
  match op with
  | .add => some (k.wrap (x + y))
  | .sub => some (k.wrap (x - y))
  | .mul => some (k.wrap (x * y))
  | .rem => bif y == 0 then none else some (x.tmod y)
  | .quo => bif y == 0 then none else some (k.wrap (x.tdiv y))
  | _ => none

def isArith : BinOp → Bool
  | .add | .sub | .mul | .quo => true
  | _ => false

def isCmp : BinOp → Bool
  | .eql | .neq | .lss | .leq | .gtr | .geq => true
  | _ => false

/-- The quick road: floats, integers of one kind, complex numbers. -/
def binE {R : Type} (fi : Fi) (op : BinOp) (x y : Value) (k : Value → Option R) (other : Option R) : Option R :=
  match x, y with
  | .float .f64 a, .float .f64 b =>
    bif isArith op then bindF (fbF op a b) fun n => k (.float .f64 n)
    else (fcmp op a b).bind fun t => forceB t fun t => k (.bool t)
  | .int ka a, .int kb b =>
    bif decide (ka = kb) && (isArith op || isCmp op || decide (op = .rem)) then
      bif isCmp op then (icmp op a b).bind fun t => forceB t fun t => k (.bool t)
      else (iarith op ka a b).bind fun n => fi R n fun n => k (.int ka n)
    else other
  | .complex .f64 a b, .complex .f64 c d =>
    match op with
    | .add | .sub => bindF (fbF op a c) fun re => bindF (fbF op b d) fun im => k (.complex .f64 re im)
    | .eql => forceB (ordW a c == some .eq) fun s => forceB (ordW b d == some .eq) fun t => k (.bool (s && t))
    | .neq => forceB (ordW a c == some .eq) fun s => forceB (ordW b d == some .eq) fun t => k (.bool !(s && t))
    | _ => other
  | _, _ => other

theorem eqGuard_num {P : Program} {w : World} {op : BinOp} {t : TypeId} {x y : Operand} {u v : Value}
    (hu : (match u with | .nilIface | .agg _ => false | _ => true) = true) : (eqGuard op t x y u v).run P w = .ok () w := by
  cases u <;> simp only [Bool.false_eq_true] at hu <;> (unfold eqGuard; cases op <;> rfl)

theorem run_int_arith {P : Program} {w : World} {op : BinOp} {t : TypeId} {k : IntKind} {x y n : Int} (h : iarith op k x y = some n) :
    (binOp op t (.int k x) (.int k y)).run P w = .ok (.int k n) w := by
  unfold iarith at h
  split at h
  · cases h; simp [binOp, Op.intArith]
  · cases h; simp [binOp, Op.intArith]
  · cases h; simp [binOp, Op.intArith]
  · cases hy : (y == 0) with
    | true => rw [hy] at h; cases h
    | false =>
      rw [hy] at h
      cases h
      have : y ≠ 0 := by simpa using hy
      simp [binOp, Op.intDiv, this]
  · cases hy : (y == 0) with
    | true => rw [hy] at h; cases h
    | false =>
      rw [hy] at h
      cases h
      have : y ≠ 0 := by simpa using hy
      simp [binOp, Op.intDiv, this]
  · cases h

theorem run_int_cmp {P : Program} {w : World} {op : BinOp} {t : TypeId} {k : IntKind} {x y : Int} {n : Bool} (h : icmp op x y = some n) :
    (binOp op t (.int k x) (.int k y)).run P w = .ok (.bool n) w := by
  unfold icmp at h
  split at h <;> first | (cases h; simp [binOp, Op.intCmp]; done) | cases h

theorem run_complex_eql {P : Program} (w : World) (t : TypeId) (a b c d : Nat) :
    (binOp .eql t (.complex .f64 a b) (.complex .f64 c d)).run P w = .ok (.bool ((ordW a c == some .eq) && (ordW b d == some .eq))) w := by
  rw [ordW_eq, ordW_eq]
  simp [binOp, Op.complexOp, Op.Complex.cmp, Op.floatCmp, asBool]
  rfl

theorem run_complex_neq {P : Program} (w : World) (t : TypeId) (a b c d : Nat) :
    (binOp .neq t (.complex .f64 a b) (.complex .f64 c d)).run P w = .ok (.bool !((ordW a c == some .eq) && (ordW b d == some .eq))) w := by
  rw [ordW_eq, ordW_eq]
  simp [binOp, Op.complexOp, Op.Complex.cmp, Op.floatCmp, asBool]
  rfl

theorem run_float_cmp {P : Program} {w : World} {op : BinOp} {t : TypeId} {x y : Nat} {n : Bool} (h : fcmp op x y = some n) :
    (binOp op t (.float .f64 x) (.float .f64 y)).run P w = .ok (.bool n) w := by
  unfold fcmp at h
  simp only [ordW_eq] at h
  split at h <;> first | (cases h; simp [binOp, Op.floatCmp]; done) | (cases h; simp only [binOp, Op.floatCmp]; rfl) | cases h

theorem binE_sound {R : Type} {P : Program} {op : BinOp} {t : TypeId} {ox oy : Operand} {x y : Value} {k : Value → Option R} {other : Option R} {r : R}
    {fi : Fi} (hfi : fi.Fair) (h : binE fi op x y k other = some r) :
    other = some r ∨ ∃ v, k v = some r ∧ flat v = true ∧ ∀ {ρ : Map} {w : World} {x' y' : Value}, VRel ρ x x' → VRel ρ y y' → ((do eqGuard op t ox oy x' y'; binOp op t x' y') : Sem Value).run P w = .ok v w := by
  unfold binE at h
  split at h
  · rename_i a b
    cases ha : isArith op with
    | true =>
      rw [ha] at h
      obtain ⟨n, h1, h2⟩ := bindF_some h
      refine .inr ⟨_, h2, rfl, fun {ρ w x' y'} hx hy => ?_⟩
      cases hx; cases hy
      rw [Sem.run_bind, eqGuard_num rfl]; exact run_float_arith w op t .f64 a b n (by rw [← fbF_eq]; exact h1)
    | false =>
      rw [ha] at h
      obtain ⟨n, h1, h2⟩ := bind_some' h
      rw [forceB_eq] at h2
      refine .inr ⟨_, h2, rfl, fun {ρ w x' y'} hx hy => ?_⟩
      cases hx; cases hy
      rw [Sem.run_bind, eqGuard_num rfl]; exact run_float_cmp h1
  · rename_i ka a kb b
    cases hc : (decide (ka = kb) && (isArith op || isCmp op || decide (op = .rem))) with
    | false => rw [hc] at h; exact .inl h
    | true =>
      rw [hc] at h
      simp only [Bool.and_eq_true, decide_eq_true_eq] at hc
      obtain ⟨rfl, _⟩ := hc
      simp only [cond_true] at h
      cases hcm : isCmp op with
      | true =>
        rw [hcm] at h
        obtain ⟨n, h1, h2⟩ := bind_some' h
        rw [forceB_eq] at h2
        refine .inr ⟨_, h2, rfl, fun {ρ w x' y'} hx hy => ?_⟩
        cases hx; cases hy
        rw [Sem.run_bind, eqGuard_num rfl]; exact run_int_cmp h1
      | false =>
        rw [hcm] at h
        obtain ⟨n, h1, h2⟩ := bind_some' h
        rw [hfi] at h2
        refine .inr ⟨_, h2, rfl, fun {ρ w x' y'} hx hy => ?_⟩
        cases hx; cases hy
        rw [Sem.run_bind, eqGuard_num rfl]; exact run_int_arith h1
  · rename_i a b c d
    split at h
    · obtain ⟨n, h1, h⟩ := bindF_some h
      obtain ⟨m, h2, h⟩ := bindF_some h
      refine .inr ⟨_, h, rfl, fun {ρ w x' y'} hx hy => ?_⟩
      cases hx; cases hy
      rw [Sem.run_bind, eqGuard_num rfl]; exact run_complex_sum w .add (.inl rfl) t .f64 a b c d n m (by rw [fbF_eq] at h1 h2; simp [cSumBits, h1, h2])
    · obtain ⟨n, h1, h⟩ := bindF_some h
      obtain ⟨m, h2, h⟩ := bindF_some h
      refine .inr ⟨_, h, rfl, fun {ρ w x' y'} hx hy => ?_⟩
      cases hx; cases hy
      rw [Sem.run_bind, eqGuard_num rfl]; exact run_complex_sum w .sub (.inr rfl) t .f64 a b c d n m (by rw [fbF_eq] at h1 h2; simp [cSumBits, h1, h2])
    · rw [forceB_eq, forceB_eq] at h
      refine .inr ⟨_, h, rfl, fun {ρ w x' y'} hx hy => ?_⟩
      cases hx; cases hy
      rw [Sem.run_bind, eqGuard_num rfl]; exact run_complex_eql (P := P) w t a b c d
    · rw [forceB_eq, forceB_eq] at h
      refine .inr ⟨_, h, rfl, fun {ρ w x' y'} hx hy => ?_⟩
      cases hx; cases hy
      rw [Sem.run_bind, eqGuard_num rfl]; exact run_complex_neq (P := P) w t a b c d
    · exact .inl h
  · exact .inl h

/-! ### Parts of a struct or an array, built -/
def fillL (place : Nat → Option (Nat × Nat)) (cs : List Value) : List (Nat × Value) → Option (List Value)
  | [] => some cs
  | (i, v) :: rest =>
    match place i with
    | none => none
    | some (off, size) =>
      bif Nat.beq v.cells.toList.length size && Nat.ble (off + v.cells.toList.length) cs.length then fillL place (splice cs off v.cells.toList) rest else none

theorem fill_fold (off : Nat) (cells vs : Array Value) (h : off + vs.size ≤ cells.size) :
    vs.zipIdx.foldl (fun cs (c, j) => cs.setIfInBounds (off + j) c) cells = ⟨splice cells.toList off vs.toList⟩ := by
  apply Array.ext'
  apply List.ext_getElem?
  intro i
  have : (vs.zipIdx.foldl (fun (cs : Array Value) (x : Value × Nat) => cs.setIfInBounds (off + x.2) x.1) cells) = (vs.toList.zipIdx.foldl (fun a x => a.setIfInBounds (off + x.2) x.1) cells) := by
    rw [← Array.foldl_toList, Array.toList_zipIdx]
  have e : (vs.zipIdx.foldl (fun cs (c, j) => cs.setIfInBounds (off + j) c) cells) = (vs.zipIdx.foldl (fun (cs : Array Value) (x : Value × Nat) => cs.setIfInBounds (off + x.2) x.1) cells) := rfl
  rw [e, this, Array.getElem?_toList, foldl_set_get, splice_get (by simpa using h)]
  simp only [Array.length_toList, Array.getElem?_toList]
  by_cases h1 : off ≤ i ∧ i < off + vs.size
  · rw [if_pos (by omega), if_pos h1]
  · rw [if_neg (by omega), if_neg h1]

inductive PRels (ρ : Map) : List (Nat × Value) → List (Nat × Value) → Prop
  | nil : PRels ρ [] []
  | cons (i : Nat) {v v' : Value} {r r' : List (Nat × Value)} (h : VRel ρ v v') (hs : PRels ρ r r') : PRels ρ ((i, v) :: r) ((i, v') :: r')

theorem fill_rel {ρ : Map} {place : Nat → Option (Nat × Nat)} : ∀ {parts parts' : List (Nat × Value)} {cs : List Value} {cells' : Array Value} {res : List Value}, PRels ρ parts parts' → VRels ρ cs cells'.toList →
    fillL place cs parts = some res → ∃ res' : Array Value, Instr.fill place cells' parts' = some res' ∧ VRels ρ res res'.toList
  | _, _, cs, cells', res, .nil, hc, h => by simp [fillL] at h; subst h; exact ⟨cells', rfl, hc⟩
  | _, _, cs, cells', res, .cons i (v := v) (v' := v') hv hs, hc, h => by
    unfold fillL at h
    unfold Instr.fill
    cases hp : place i with
    | none => simp [hp] at h
    | some p =>
      obtain ⟨off, size⟩ := p
      simp only [hp] at h ⊢
      cases hb : (Nat.beq v.cells.toList.length size && Nat.ble (off + v.cells.toList.length) cs.length) with
      | false => rw [hb] at h; cases h
      | true =>
        rw [hb] at h
        simp only [cond_true] at h
        simp only [Bool.and_eq_true, Nat.beq_eq, Nat.ble_eq] at hb
        have h1 := hv.cells
        have h2 := h1.length
        have h3 := hc.length
        have e1 : v'.cells.size = size := by have : v'.cells.toList.length = v'.cells.size := by simp
                                             omega
        have e2 : off + v'.cells.size ≤ cells'.size := by
          have : cells'.toList.length = cells'.size := by simp
          have : v'.cells.toList.length = v'.cells.size := by simp
          omega
        have hno : (decide (v'.cells.size ≠ size) || decide (off + v'.cells.size > cells'.size)) = false := by simp [e1]; omega
        rw [hno]
        simp only [Bool.false_eq_true, if_false]
        rw [fill_fold off cells' v'.cells e2]
        exact fill_rel hs (hc.splice h1 off) h

def partsE (e : Env) : List (Nat × Operand) → Option (List (Nat × Value))
  | [] => some []
  | (i, x) :: r => (opd e x).bind fun v => (partsE e r).bind fun vs => some ((i, v) :: vs)

theorem partsE_rel {ρ : Map} {e : Env} {a : Act} (he : EnvRel ρ e a.tmps) : ∀ {xs : List (Nat × Operand)} {vs : List (Nat × Value)}, partsE e xs = some vs → PRels ρ vs (xs.map fun (i, x) => (i, a.eval x))
  | [], vs, h => by simp [partsE] at h; subst h; exact .nil
  | (i, x) :: r, vs, h => by
    obtain ⟨v, h1, h⟩ := bind_some' h
    obtain ⟨us, h2, h⟩ := bind_some' h
    cases h
    exact .cons i (opd_rel he h1) (partsE_rel he h2)

def placesOf (P : Program) (fields : Array Field) : Option (Array (Nat × Nat)) := calm P (fields.mapM fun f => do pure (f.offset, ← sizeOf f.type))

def buildE {R : Type} (P : Program) (t : TypeId) (parts : List (Nat × Value)) (k : Value → Option R) : Option R :=
  (calm P (zeroValue t)).bind fun z =>
    bif flat z then
      match P.underlying t with
      | some (.struct fields) => (placesOf P fields).bind fun places => (fillL (fun i => places[i]?) z.cells.toList parts).bind fun cs => k (.agg ⟨cs⟩)
      | some (.array _ elem) => (calm P (sizeOf elem)).bind fun size => (fillL (fun i => some (i * size, size)) z.cells.toList parts).bind fun cs => k (.agg ⟨cs⟩)
      | _ => none
    else none

theorem flat_cells {v : Value} (h : flat v = true) (ρ : Map) : VRels ρ v.cells.toList v.cells.toList := (VRel.ofFlat ρ h).cells

theorem buildE_sound {R : Type} {P : Program} {t : TypeId} {parts : List (Nat × Value)} {k : Value → Option R} {r : R} (h : buildE P t parts k = some r) :
    ∃ v, k v = some r ∧ ∀ {ρ : Map} {w : World} {parts' : List (Nat × Value)}, PRels ρ parts parts' → ∃ v', (Instr.build t parts'.toArray).run P w = .ok v' w ∧ VRel ρ v v' := by
  unfold buildE at h
  obtain ⟨z, h1, h⟩ := bind_some' h
  cases hf : flat z with
  | false => rw [hf] at h; cases h
  | true =>
    rw [hf] at h
    simp only [cond_true] at h
    have hz := calm_run h1
    split at h
    · rename_i fields hu
      obtain ⟨places, h2, h⟩ := bind_some' h
      obtain ⟨cs, h3, h⟩ := bind_some' h
      refine ⟨_, h, fun {ρ w parts'} hp => ?_⟩
      obtain ⟨res', g1, g2⟩ := fill_rel hp (flat_cells hf ρ) h3
      obtain ⟨l⟩ := res'
      have hpl := calm_run (show calm P (fields.mapM fun f => do pure (f.offset, ← sizeOf f.type)) = some places from h2)
      refine ⟨.agg ⟨l⟩, ?_, .agg g2⟩
      unfold Instr.build
      simp only [Sem.run_bind, hz, run_underlying hu, hpl, Result.andThen_ok, g1, Sem.run_pure]
    · rename_i n elem hu
      obtain ⟨size, h2, h⟩ := bind_some' h
      obtain ⟨cs, h3, h⟩ := bind_some' h
      refine ⟨_, h, fun {ρ w parts'} hp => ?_⟩
      obtain ⟨res', g1, g2⟩ := fill_rel hp (flat_cells hf ρ) h3
      obtain ⟨l⟩ := res'
      refine ⟨.agg ⟨l⟩, ?_, .agg g2⟩
      unfold Instr.build
      simp only [Sem.run_bind, hz, run_underlying hu, calm_run h2, Result.andThen_ok, g1, Sem.run_pure]
    · cases h

end Go.Vm
namespace Go.Vm
set_option linter.unusedVariables false
set_option linter.unusedSimpArgs false

/-- A value and a step of the world, out of the run of the operation's own reckoning. -/
theorem Done.value {P : Program} {lo : Nat} {o : Oper} {a : Act} {ρ ρ' : Map} {H H' : AH} {w w' : World} {v v' : Value}
    (hr : (execOp a.eval o).run P w = .ok (.value v') w') (hn : Next lo ρ H w ρ' H' w') (hv : VRel ρ' v v') : Done P lo o a ρ H w v H' :=
  ⟨ρ', w', v', _, hr, .inl rfl, hn, hv⟩
theorem Done.skip {P : Program} {lo : Nat} {o : Oper} {a : Act} {ρ ρ' : Map} {H H' : AH} {w w' : World}
    (hr : (execOp a.eval o).run P w = .ok .skip w') (hn : Next lo ρ H w ρ' H' w') : Done P lo o a ρ H w undef H' :=
  ⟨ρ', w', undef, _, hr, .inr ⟨rfl, rfl⟩, hn, .tuple .nil⟩

/-! ### New blocks -/
theorem alloc_cells {P : Program} {lo : Nat} {ρ : Map} {H : AH} {w : World} (hi : Inv ρ H w) (hlo : lo ≤ H.next) {cs : List Value} {arr : Array Value} (hc : VRels ρ cs arr.toList) (t : TypeId) :
    Next lo ρ H w (upd ρ H.next ⟨w.heap.size, 0, 0⟩) (H.push (.cells cs 0)) (w.alloc (.cells arr t)) := by
  refine Next.alloc hi hlo _ _ 0 ⟨arr, t, arr.toList, ?_, hc.mono (upd_ext hi _), fun i v hv => by simpa using hv, ?_, fun _ => rfl⟩
  · show (w.heap.push _)[w.heap.size]? = _
    simp
  · have := hc.length
    simp at this ⊢
    omega

def newE {R : Type} (H : AH) (cs : List Value) (k : Value → AH → Option R) : Option R :=
  k (.pointer (some ⟨H.next, 0, none⟩)) (H.push (.cells cs 0))

def allocE {R : Type} (P : Program) (H : AH) (t : TypeId) (k : Value → AH → Option R) : Option R :=
  (calm P (zeroValue t)).bind fun z => bif flat z then newE H z.cells.toList k else none

theorem ptr_new {ρ : Map} {H : AH} {n x : Nat} : VRel (upd ρ H.next ⟨n, 0, x⟩) (.pointer (some ⟨H.next, 0, none⟩)) (.pointer (some ⟨n, 0, none⟩)) :=
  VRel.ptr (s := ⟨n, 0, x⟩) (o := 0) (upd_same _ _ _)

theorem allocE_sound {R : Type} {P : Program} {lo : Nat} {H : AH} {t : TypeId} {k : Value → AH → Option R} {r : R} (h : allocE P H t k = some r)
    {o : Oper} (ho : o.op = .alloc t) : ∃ v H', k v H' = some r ∧ ∀ {ρ : Map} {w : World} {a : Act}, Inv ρ H w → lo ≤ H.next → Done P lo o a ρ H w v H' := by
  unfold allocE at h
  obtain ⟨z, h1, h⟩ := bind_some' h
  cases hf : flat z with
  | false => rw [hf] at h; cases h
  | true =>
    rw [hf] at h
    refine ⟨_, _, h, fun {ρ w a} hi hlo => Done.value ?_ (alloc_cells (P := P) hi hlo (flat_cells hf ρ) t) ptr_new⟩
    simp [execOp, ho, Instr.alloc, newVar, newRow, calm_run h1]

theorem boxE_sound {R : Type} {P : Program} {lo : Nat} {H : AH} {t : TypeId} {x : Operand} {v : Value} {k : Value → AH → Option R} {r : R} (h : newE H v.cells.toList k = some r)
    {o : Oper} (ho : o.op = .box t x) : ∃ u H', k u H' = some r ∧ ∀ {ρ : Map} {w : World} {a : Act}, Inv ρ H w → lo ≤ H.next → VRel ρ v (a.eval x) → Done P lo o a ρ H w u H' := by
  refine ⟨_, _, h, fun {ρ w a} hi hlo hv => Done.value ?_ (alloc_cells (P := P) hi hlo hv.cells t) ptr_new⟩
  simp [execOp, ho, Instr.box, newVar, newRow]

/-! ### Slices made -/
def repeatE (z : List Value) (n : Nat) : List Value := (List.range n).map fun i => z.getD (i % z.length) default

theorem repeat_eq (z : Array Value) (n : Nat) : ((Array.range n).map fun i => z[i % z.size]!).toList = repeatE z.toList n := by
  unfold repeatE
  simp [Array.getElem!_eq_getD, List.getD_eq_getElem?_getD]

theorem VRels.replicate {ρ : Map} {z : List Value} (hz : VRels ρ z z) (n : Nat) : VRels ρ (repeatE z n) (repeatE z n) := by
  unfold repeatE
  generalize List.range n = l
  induction l with
  | nil => exact .nil
  | cons i r ih =>
    refine .cons ?_ ih
    show VRel ρ (z.getD (i % z.length) default) (z.getD (i % z.length) default)
    rw [List.getD_eq_getElem?_getD]
    cases hq : z[i % z.length]? with
    | none => exact .bool _
    | some v =>
      obtain ⟨v', h1, h2⟩ := hz.get _ hq
      rw [hq] at h1
      cases h1
      exact h2

def buildSliceE {R : Type} (P : Program) (H : AH) (t : TypeId) (len : Nat) (parts : List (Nat × Value)) (k : Value → AH → Option R) : Option R :=
  match P.underlying t with
  | some (.slice elem) =>
    (calm P (sizeOf elem)).bind fun size => (calm P (zeroValue elem)).bind fun z =>
      bif flat z && Nat.ble (len * size) 16777216 && !Nat.beq (len * size) 0 then
        (fillL (fun i => some (i * size, size)) (repeatE z.cells.toList (len * size)) parts).bind fun cs =>
          k (.slice (some ⟨H.next, 0, none⟩) len len) (H.push (.cells cs 0))
      else none
  | _ => none

theorem slice_new {ρ : Map} {H : AH} {n l : Nat} : VRel (upd ρ H.next ⟨n, 0, 0⟩) (.slice (some ⟨H.next, 0, none⟩) l l) (.slice (some ⟨n, 0, none⟩) l l) :=
  VRel.slice (s := ⟨n, 0, 0⟩) (o := 0) (upd_same _ _ _)

theorem buildSliceE_sound {R : Type} {P : Program} {lo : Nat} {H : AH} {t : TypeId} {len : Nat} {xs : Array (Nat × Operand)} {parts : List (Nat × Value)} {k : Value → AH → Option R} {r : R}
    (h : buildSliceE P H t len parts k = some r) {o : Oper} (ho : o.op = .buildSlice t len xs) :
    ∃ v H', k v H' = some r ∧ ∀ {ρ : Map} {w : World} {a : Act}, Inv ρ H w → lo ≤ H.next → PRels ρ parts (xs.toList.map fun (i, x) => (i, a.eval x)) → Done P lo o a ρ H w v H' := by
  unfold buildSliceE at h
  split at h
  · rename_i elem hu
    obtain ⟨size, h1, h⟩ := bind_some' h
    obtain ⟨z, h2, h⟩ := bind_some' h
    cases hc : (flat z && Nat.ble (len * size) 16777216 && !Nat.beq (len * size) 0) with
    | false => rw [hc] at h; cases h
    | true =>
      rw [hc] at h
      simp only [cond_true] at h
      obtain ⟨cs, h3, h⟩ := bind_some' h
      simp only [Bool.and_eq_true, Nat.ble_eq, Bool.not_eq_true'] at hc
      obtain ⟨⟨hf, hb⟩, hz⟩ := hc
      have hz' : len * size ≠ 0 := fun e => by rw [e] at hz; cases hz
      refine ⟨_, _, h, fun {ρ w a} hi hlo hp => ?_⟩
      have hzc := flat_cells hf ρ
      obtain ⟨res', g1, g2⟩ := fill_rel (cells' := (Array.range (len * size)).map fun i => z.cells[i % z.cells.size]!) hp (by rw [repeat_eq]; exact VRels.replicate hzc _) h3
      refine Done.value ?_ (alloc_cells (P := P) hi hlo g2 elem) slice_new
      have e1 : (xs.map fun (i, x) => (i, a.eval x)).toList = xs.toList.map fun (i, x) => (i, a.eval x) := by simp
      simp only [execOp, ho, Instr.buildSlice, Sem.run_bind, run_underlying hu, Result.andThen_ok, calm_run h1, calm_run h2]
      rw [if_neg (by have := Nat.pow_le_pow_right (n := 2) (by decide) (Nat.le_refl 24); omega), if_neg hz']
      simp only [Sem.run_bind, calm_run h2, Result.andThen_ok, Sem.run_pure, e1, g1, newRow, run_newObj]
      rfl
  · cases h

theorem wrap64_in {n : Int} (h1 : -9223372036854775808 ≤ n) (h2 : n ≤ 9223372036854775807) : IntKind.i64.wrap n = n := IntWalk.i64_in n ⟨by omega, by omega⟩

def makeSliceE {R : Type} (P : Program) (H : AH) (t : TypeId) (l c : Value) (k : Value → AH → Option R) : Option R :=
  match P.underlying t, l, c with
  | some (.slice elem), .int _ l, .int _ c =>
    (calm P (typeInfo elem)).bind fun info => (calm P (sizeOf elem)).bind fun size => (calm P (zeroValue elem)).bind fun z =>
      bif flat z && decide (0 ≤ l) && decide (l ≤ c) && decide (c ≤ 4294967296) && decide (info.bytes * c ≤ 281474976710656) && !Nat.beq (c.toNat * size) 0 then
        k (.slice (some ⟨H.next, 0, none⟩) l.toNat c.toNat) (H.push (.cells (repeatE z.cells.toList (c.toNat * size)) 0))
      else none
  | _, _, _ => none

theorem makeSliceE_sound {R : Type} {P : Program} {lo : Nat} {H : AH} {t : TypeId} {xl xc : Operand} {l c : Value} {k : Value → AH → Option R} {r : R}
    (h : makeSliceE P H t l c k = some r) {o : Oper} (ho : o.op = .makeSlice t xl xc) :
    ∃ v H', k v H' = some r ∧ ∀ {ρ : Map} {w : World} {a : Act}, Inv ρ H w → lo ≤ H.next → VRel ρ l (a.eval xl) → VRel ρ c (a.eval xc) → Done P lo o a ρ H w v H' := by
  unfold makeSliceE at h
  split at h
  · rename_i elem kl l kc c hu
    obtain ⟨info, h0, h⟩ := bind_some' h
    obtain ⟨size, h1, h⟩ := bind_some' h
    obtain ⟨z, h2, h⟩ := bind_some' h
    cases hc : (flat z && decide (0 ≤ l) && decide (l ≤ c) && decide (c ≤ 4294967296) && decide (info.bytes * c ≤ 281474976710656) && !Nat.beq (c.toNat * size) 0) with
    | false => rw [hc] at h; cases h
    | true =>
      rw [hc] at h
      simp only [cond_true] at h
      simp only [Bool.and_eq_true, decide_eq_true_eq, Bool.not_eq_true'] at hc
      obtain ⟨⟨⟨⟨⟨hf, g1⟩, g2⟩, g3⟩, g4⟩, hz⟩ := hc
      have hz' : c.toNat * size ≠ 0 := fun e => by rw [e] at hz; cases hz
      refine ⟨_, _, h, fun {ρ w a} hi hlo hl hcp => ?_⟩
      have hnew := alloc_cells (P := P) (lo := lo) (arr := (Array.range (c.toNat * size)).map fun i => z.cells[i % z.cells.size]!) (cs := repeatE z.cells.toList (c.toNat * size)) hi hlo
        (by rw [repeat_eq]; exact VRels.replicate (flat_cells hf ρ) _) elem
      refine Done.value ?_ hnew (VRel.slice (s := ⟨w.heap.size, 0, 0⟩) (o := 0) (upd_same _ _ _))
      generalize hel : a.eval xl = l' at *
      generalize hec : a.eval xc = c' at *
      cases hl; cases hcp
      simp only [execOp, ho, Instr.makeSlice, hel, hec, Sem.run_bind, run_underlying hu, Result.andThen_ok, asInt, asIntOf, Sem.run_pure, calm_run h0, calm_run h1, calm_run h2,
        wrap64_in (n := l) (by omega) (by omega), wrap64_in (n := c) (by omega) (by omega)]
      have t1 : (decide (c < 0) || decide ((info.bytes : Int) * c > 2 ^ 48)) = false := by
        simp only [Bool.or_eq_false_iff, decide_eq_false_iff_not]; omega
      have t2 : ((decide (c < 0) || decide ((info.bytes : Int) * c > 2 ^ 48)) || decide (l < 0) || decide (l > c)) = false := by
        rw [t1]; simp only [Bool.false_or, Bool.or_eq_false_iff, decide_eq_false_iff_not]; omega
      rw [t2]
      simp only [Bool.false_eq_true, if_false, Sem.run_bind, run_askRoom, Result.andThen_ok, calm_run h1, if_neg hz', calm_run h2, Sem.run_pure, newRow, run_newObj]
      rfl
  · cases h

end Go.Vm
