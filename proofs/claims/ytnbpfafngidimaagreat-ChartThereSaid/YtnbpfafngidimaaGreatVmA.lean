/- An abstract memory and how its values stand for the values of the machine; no conditions. -/
import Derived.Deep.MidRow
import Derived.Orders
import Derived.Below
import Derived.KernelRfl
import Derived.WalkLawsBesides
set_option linter.unusedSimpArgs false
namespace Go.Vm

/-! ### Abstract memory -/
/- 'cells cs sz': cells, and how many an element has, where the block was made by append (else 0). 'map kk es': keys of kind kk. -/
inductive AObj where
  | cells (cs : List Value) (sz : Nat)
  | map (kk : IntKind) (es : List (Int × Value))

abbrev Objs := List (Nat × AObj)

def look (k : Nat) : Objs → Option AObj
  | [] => none
  | (j, o) :: r => bif Nat.beq j k then some o else look k r

def drop (k : Nat) : Objs → Objs
  | [] => []
  | (j, o) :: r => bif Nat.beq j k then drop k r else (j, o) :: drop k r

structure AH where
  next : Nat
  objs : Objs

theorem look_mem {k : Nat} {o : AObj} : ∀ {S : Objs}, look k S = some o → (k, o) ∈ S
  | [], h => by simp [look] at h
  | (j, u) :: r, h => by
    unfold look at h
    cases hb : Nat.beq j k with
    | true => simp [hb] at h; have := Nat.eq_of_beq_eq_true hb; subst this; subst h; simp
    | false => simp [hb] at h; exact List.mem_cons_of_mem _ (look_mem h)

theorem mem_drop {k : Nat} {x : Nat × AObj} : ∀ {S : Objs}, x ∈ drop k S ↔ x ∈ S ∧ x.1 ≠ k
  | [] => by simp [drop]
  | (j, u) :: r => by
    unfold drop
    cases hb : Nat.beq j k with
    | true =>
      have := Nat.eq_of_beq_eq_true hb
      subst this
      simp only [cond_true, mem_drop (S := r), List.mem_cons]
      constructor
      · rintro ⟨h1, h2⟩; exact ⟨.inr h1, h2⟩
      · rintro ⟨rfl | h1, h2⟩
        · exact absurd rfl h2
        · exact ⟨h1, h2⟩
    | false =>
      have hne : j ≠ k := fun e => by subst e; simp at hb
      simp only [cond_false, List.mem_cons, mem_drop (S := r)]
      constructor
      · rintro (rfl | ⟨h1, h2⟩)
        · exact ⟨.inl rfl, hne⟩
        · exact ⟨.inr h1, h2⟩
      · rintro ⟨rfl | h1, h2⟩
        · exact .inl rfl
        · exact .inr ⟨h1, h2⟩

/-! ### Where the abstract blocks lie -/
/-- Block, first cell, and by how many elements every slice's capacity is greater than told. -/
structure Spot where
  b : Nat
  d : Nat
  x : Nat

abbrev Map := Nat → Option Spot

mutual
inductive VRel (ρ : Map) : Value → Value → Prop
  | bool (b : Bool) : VRel ρ (.bool b) (.bool b)
  | int (k : IntKind) (n : Int) : VRel ρ (.int k n) (.int k n)
  | float (k : FloatKind) (n : Nat) : VRel ρ (.float k n) (.float k n)
  | complex (k : FloatKind) (a b : Nat) : VRel ρ (.complex k a b) (.complex k a b)
  | string (s : ByteArray) : VRel ρ (.string s) (.string s)
  | nilPtr : VRel ρ (.pointer none) (.pointer none)
  | ptr {k o : Nat} {s : Spot} (h : ρ k = some s) : VRel ρ (.pointer (some ⟨k, o, none⟩)) (.pointer (some ⟨s.b, s.d + o, none⟩))
  | nilSlice (n c : Nat) : VRel ρ (.slice none n c) (.slice none n c)
  | slice {k o n c : Nat} {s : Spot} (h : ρ k = some s) : VRel ρ (.slice (some ⟨k, o, none⟩) n c) (.slice (some ⟨s.b, s.d + o, none⟩) n (c + s.x))
  | nilMap : VRel ρ (.map none) (.map none)
  | map {k : Nat} {s : Spot} (h : ρ k = some s) : VRel ρ (.map (some k)) (.map (some s.b))
  | nilFunc : VRel ρ .nilFunc .nilFunc
  | func (f : Fn) {as as' bs bs' : List Value} (ha : VRels ρ as as') (hb : VRels ρ bs bs') : VRel ρ (.func f ⟨as⟩ ⟨bs⟩) (.func f ⟨as'⟩ ⟨bs'⟩)
  | nilIface : VRel ρ .nilIface .nilIface
  | iface (t : TypeId) {v v' : Value} (h : VRel ρ v v') : VRel ρ (.iface t v) (.iface t v')
  | agg {as as' : List Value} (h : VRels ρ as as') : VRel ρ (.agg ⟨as⟩) (.agg ⟨as'⟩)
  | tuple {as as' : List Value} (h : VRels ρ as as') : VRel ρ (.tuple ⟨as⟩) (.tuple ⟨as'⟩)
inductive VRels (ρ : Map) : List Value → List Value → Prop
  | nil : VRels ρ [] []
  | cons {v v' : Value} {vs vs' : List Value} (h : VRel ρ v v') (hs : VRels ρ vs vs') : VRels ρ (v :: vs) (v' :: vs')
end

section
variable {ρ ρ' : Map}
mutual
theorem VRel.mono (hρ : ∀ k p, ρ k = some p → ρ' k = some p) : ∀ {v v' : Value}, VRel ρ v v' → VRel ρ' v v'
  | _, _, .bool b => .bool b
  | _, _, .int k n => .int k n
  | _, _, .float k n => .float k n
  | _, _, .complex k a b => .complex k a b
  | _, _, .string s => .string s
  | _, _, .nilPtr => .nilPtr
  | _, _, .ptr h => .ptr (hρ _ _ h)
  | _, _, .nilSlice n c => .nilSlice n c
  | _, _, .slice h => .slice (hρ _ _ h)
  | _, _, .nilMap => .nilMap
  | _, _, .map h => .map (hρ _ _ h)
  | _, _, .nilFunc => .nilFunc
  | _, _, .func f ha hb => .func f (VRels.mono hρ ha) (VRels.mono hρ hb)
  | _, _, .nilIface => .nilIface
  | _, _, .iface t h => .iface t (VRel.mono hρ h)
  | _, _, .agg h => .agg (VRels.mono hρ h)
  | _, _, .tuple h => .tuple (VRels.mono hρ h)
theorem VRels.mono (hρ : ∀ k p, ρ k = some p → ρ' k = some p) : ∀ {v v' : List Value}, VRels ρ v v' → VRels ρ' v v'
  | _, _, .nil => .nil
  | _, _, .cons h hs => .cons (VRel.mono hρ h) (VRels.mono hρ hs)
end
end

/- Every block that a value names has a number below n. -/
mutual
def inn (n : Nat) : Value → Bool
  | .pointer (some a) => Nat.blt a.block n
  | .slice (some a) _ _ => Nat.blt a.block n
  | .map (some k) => Nat.blt k n
  | .chan _ => false
  | .func _ as bs => innA n as && innA n bs
  | .iface _ v => inn n v
  | .agg as => innA n as
  | .tuple as => innA n as
  | _ => true
def innA (n : Nat) : Array Value → Bool
  | ⟨l⟩ => inns n l
def inns (n : Nat) : List Value → Bool
  | [] => true
  | v :: r => inn n v && inns n r
end

section
variable {ρ ρ' : Map} {n : Nat}
mutual
theorem VRel.scope (hρ : ∀ k, k < n → ρ' k = ρ k) : ∀ {v v' : Value}, VRel ρ' v v' → inn n v = true → VRel ρ v v'
  | _, _, .bool b, _ => .bool b
  | _, _, .int k n, _ => .int k n
  | _, _, .float k n, _ => .float k n
  | _, _, .complex k a b, _ => .complex k a b
  | _, _, .string s, _ => .string s
  | _, _, .nilPtr, _ => .nilPtr
  | _, _, .ptr h, hs => .ptr (by rw [← hρ _ (by simpa [inn, Nat.blt_eq] using hs)]; exact h)
  | _, _, .nilSlice n c, _ => .nilSlice n c
  | _, _, .slice h, hs => .slice (by rw [← hρ _ (by simpa [inn, Nat.blt_eq] using hs)]; exact h)
  | _, _, .nilMap, _ => .nilMap
  | _, _, .map h, hs => .map (by rw [← hρ _ (by simpa [inn, Nat.blt_eq] using hs)]; exact h)
  | _, _, .nilFunc, _ => .nilFunc
  | _, _, .func f ha hb, hs => by
    simp only [inn, innA, Bool.and_eq_true] at hs
    exact .func f (VRels.scope hρ ha hs.1) (VRels.scope hρ hb hs.2)
  | _, _, .nilIface, _ => .nilIface
  | _, _, .iface t h, hs => .iface t (VRel.scope hρ h (by simpa [inn] using hs))
  | _, _, .agg h, hs => .agg (VRels.scope hρ h (by simpa [inn, innA] using hs))
  | _, _, .tuple h, hs => .tuple (VRels.scope hρ h (by simpa [inn, innA] using hs))
theorem VRels.scope (hρ : ∀ k, k < n → ρ' k = ρ k) : ∀ {v v' : List Value}, VRels ρ' v v' → inns n v = true → VRels ρ v v'
  | _, _, .nil, _ => .nil
  | _, _, .cons h hs, hx => by
    simp only [inns, Bool.and_eq_true] at hx
    exact .cons (VRel.scope hρ h hx.1) (VRels.scope hρ hs hx.2)
end
end

/-- No pointers at all. -/
def flat (v : Value) : Bool := inn 0 v

theorem VRel.flat_eq {ρ : Map} {v v' : Value} (h : VRel ρ v v') : flat v = true → v' = v := by
  unfold flat
  refine VRel.rec (motive_1 := fun v v' _ => inn 0 v = true → v' = v) (motive_2 := fun vs vs' _ => inns 0 vs = true → vs' = vs)
    ?_ ?_ ?_ ?_ ?_ ?_ ?_ ?_ ?_ ?_ ?_ ?_ ?_ ?_ ?_ ?_ ?_ ?_ ?_ h
  all_goals intros
  all_goals simp_all [inn, innA, inns]

theorem VRels.flat_eq {ρ : Map} : ∀ {v v' : List Value}, VRels ρ v v' → inns 0 v = true → v' = v
  | _, _, .nil, _ => rfl
  | _, _, .cons h hs, hx => by
    simp only [inns, Bool.and_eq_true] at hx
    rw [h.flat_eq hx.1, hs.flat_eq hx.2]

mutual
theorem VRel.ofFlat (ρ : Map) : ∀ {v : Value}, inn 0 v = true → VRel ρ v v
  | .bool b, _ => .bool b
  | .int k n, _ => .int k n
  | .float k n, _ => .float k n
  | .complex k a b, _ => .complex k a b
  | .string s, _ => .string s
  | .pointer none, _ => .nilPtr
  | .pointer (some a), h => by simp [inn] at h
  | .slice none n c, _ => .nilSlice n c
  | .slice (some a) _ _, h => by simp [inn] at h
  | .map none, _ => .nilMap
  | .map (some a), h => by simp [inn] at h
  | .chan _, h => by simp [inn] at h
  | .nilFunc, _ => .nilFunc
  | .func f ⟨as⟩ ⟨bs⟩, h => by
    simp only [inn, innA, Bool.and_eq_true] at h
    exact .func f (VRels.ofFlat ρ h.1) (VRels.ofFlat ρ h.2)
  | .nilIface, _ => .nilIface
  | .iface t v, h => .iface t (VRel.ofFlat ρ (by simpa [inn] using h))
  | .agg ⟨as⟩, h => .agg (VRels.ofFlat ρ (by simpa [inn, innA] using h))
  | .tuple ⟨as⟩, h => .tuple (VRels.ofFlat ρ (by simpa [inn, innA] using h))
theorem VRels.ofFlat (ρ : Map) : ∀ {v : List Value}, inns 0 v = true → VRels ρ v v
  | [], _ => .nil
  | v :: r, h => by
    simp only [inns, Bool.and_eq_true] at h
    exact .cons (VRel.ofFlat ρ h.1) (VRels.ofFlat ρ h.2)
end

end Go.Vm
