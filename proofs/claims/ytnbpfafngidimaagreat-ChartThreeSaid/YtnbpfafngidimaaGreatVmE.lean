/- New blocks are right; no conditions. -/
import Derived.Test.YtnbpfafngidimaaGreatVmD
import Derived.IntWalk
namespace Go.Vm
set_option linter.unusedVariables false
set_option linter.unusedSimpArgs false

/-- A value and a step of the world, out of the run of the operation's own reckoning. -/
theorem Done.value {P : Program} {lo : Nat} {o : Oper} {a : Act} {ρ ρ' : Map} {H H' : AH} {w w' : World} {v v' : Value}
    (hr : (execOp a.eval o).run P w = .ok (.value v') w') (hn : Next lo ρ H w ρ' H' w') (hv : VRel ρ' v v') : Done P lo o a ρ H w v H' :=
  ⟨ρ', w', v', _, hr, .inl rfl, hn, hv⟩
theorem Done.skip {P : Program} {lo : Nat} {o : Oper} {a : Act} {ρ ρ' : Map} {H H' : AH} {w w' : World}
    (hr : (execOp a.eval o).run P w = .ok .skip w') (hn : Next lo ρ H w ρ' H' w') : Done P lo o a ρ H w undef H' :=
  ⟨ρ', w', undef, _, hr, .inr ⟨rfl, rfl⟩, hn, .tuple .nil⟩

/-! ### New blocks -/
theorem alloc_cells {P : Program} {lo : Nat} {ρ : Map} {H : AH} {w : World} (hi : Inv ρ H w) (hlo : lo ≤ H.next) {cs : List Value} {arr : Array Value} (hc : VRels ρ cs arr.toList) (t : TypeId) :
    Next lo ρ H w (upd ρ H.next ⟨w.heap.size, 0, 0⟩) (H.push (.cells cs 0)) (w.alloc (.cells arr t)) := by
  refine Next.alloc hi hlo _ _ 0 ⟨arr, t, arr.toList, ?_, hc.mono (upd_ext hi _), fun i v hv => by simpa using hv, ?_⟩
  · show (w.heap.push _)[w.heap.size]? = _
    simp
  · have := hc.length
    simp at this ⊢
    omega

def newE {R : Type} (H : AH) (cs : List Value) (k : Value → AH → Option R) : Option R :=
  k (.pointer (some ⟨H.next, 0, none⟩)) (H.push (.cells cs 0))

def allocE {R : Type} (P : Program) (H : AH) (t : TypeId) (k : Value → AH → Option R) : Option R :=
  (calm P (zeroValue t)).bind fun z => bif flat z then newE H z.cells.toList k else none

theorem ptr_new {ρ : Map} {H : AH} {n x : Nat} : VRel (upd ρ H.next ⟨n, 0, x⟩) (.pointer (some ⟨H.next, 0, none⟩)) (.pointer (some ⟨n, 0, none⟩)) :=
  VRel.ptr (s := ⟨n, 0, x⟩) (o := 0) (upd_same _ _ _)

theorem allocE_sound {R : Type} {P : Program} {lo : Nat} {H : AH} {t : TypeId} {k : Value → AH → Option R} {r : R} (h : allocE P H t k = some r)
    {o : Oper} (ho : o.op = .alloc t) : ∃ v H', k v H' = some r ∧ ∀ {ρ : Map} {w : World} {a : Act}, Inv ρ H w → lo ≤ H.next → Done P lo o a ρ H w v H' := by
  unfold allocE at h
  obtain ⟨z, h1, h⟩ := bind_some' h
  cases hf : flat z with
  | false => rw [hf] at h; cases h
  | true =>
    rw [hf] at h
    refine ⟨_, _, h, fun {ρ w a} hi hlo => Done.value ?_ (alloc_cells (P := P) hi hlo (flat_cells hf ρ) t) ptr_new⟩
    simp [execOp, ho, Instr.alloc, newVar, newRow, calm_run h1]

theorem boxE_sound {R : Type} {P : Program} {lo : Nat} {H : AH} {t : TypeId} {x : Operand} {v : Value} {k : Value → AH → Option R} {r : R} (h : newE H v.cells.toList k = some r)
    {o : Oper} (ho : o.op = .box t x) : ∃ u H', k u H' = some r ∧ ∀ {ρ : Map} {w : World} {a : Act}, Inv ρ H w → lo ≤ H.next → VRel ρ v (a.eval x) → Done P lo o a ρ H w u H' := by
  refine ⟨_, _, h, fun {ρ w a} hi hlo hv => Done.value ?_ (alloc_cells (P := P) hi hlo hv.cells t) ptr_new⟩
  simp [execOp, ho, Instr.box, newVar, newRow]

/-! ### Slices made -/
def repeatE (z : List Value) (n : Nat) : List Value := (List.range n).map fun i => z.getD (i % z.length) default

theorem repeat_eq (z : Array Value) (n : Nat) : ((Array.range n).map fun i => z[i % z.size]!).toList = repeatE z.toList n := by
  unfold repeatE
  simp [Array.getElem!_eq_getD, List.getD_eq_getElem?_getD]

theorem VRels.replicate {ρ : Map} {z : List Value} (hz : VRels ρ z z) (n : Nat) : VRels ρ (repeatE z n) (repeatE z n) := by
  unfold repeatE
  generalize List.range n = l
  induction l with
  | nil => exact .nil
  | cons i r ih =>
    refine .cons ?_ ih
    show VRel ρ (z.getD (i % z.length) default) (z.getD (i % z.length) default)
    rw [List.getD_eq_getElem?_getD]
    cases hq : z[i % z.length]? with
    | none => exact .bool _
    | some v =>
      obtain ⟨v', h1, h2⟩ := hz.get _ hq
      rw [hq] at h1
      cases h1
      exact h2

def buildSliceE {R : Type} (P : Program) (H : AH) (t : TypeId) (len : Nat) (parts : List (Nat × Value)) (k : Value → AH → Option R) : Option R :=
  match P.underlying t with
  | some (.slice elem) =>
    (calm P (sizeOf elem)).bind fun size => (calm P (zeroValue elem)).bind fun z =>
      bif flat z && Nat.ble (len * size) 16777216 && !Nat.beq (len * size) 0 then
        (fillL (fun i => some (i * size, size)) (repeatE z.cells.toList (len * size)) parts).bind fun cs =>
          k (.slice (some ⟨H.next, 0, none⟩) len len) (H.push (.cells cs 0))
      else none
  | _ => none

theorem slice_new {ρ : Map} {H : AH} {n l : Nat} : VRel (upd ρ H.next ⟨n, 0, 0⟩) (.slice (some ⟨H.next, 0, none⟩) l l) (.slice (some ⟨n, 0, none⟩) l l) :=
  VRel.slice (s := ⟨n, 0, 0⟩) (o := 0) (upd_same _ _ _)

theorem buildSliceE_sound {R : Type} {P : Program} {lo : Nat} {H : AH} {t : TypeId} {len : Nat} {xs : Array (Nat × Operand)} {parts : List (Nat × Value)} {k : Value → AH → Option R} {r : R}
    (h : buildSliceE P H t len parts k = some r) {o : Oper} (ho : o.op = .buildSlice t len xs) :
    ∃ v H', k v H' = some r ∧ ∀ {ρ : Map} {w : World} {a : Act}, Inv ρ H w → lo ≤ H.next → PRels ρ parts (xs.toList.map fun (i, x) => (i, a.eval x)) → Done P lo o a ρ H w v H' := by
  unfold buildSliceE at h
  split at h
  · rename_i elem hu
    obtain ⟨size, h1, h⟩ := bind_some' h
    obtain ⟨z, h2, h⟩ := bind_some' h
    cases hc : (flat z && Nat.ble (len * size) 16777216 && !Nat.beq (len * size) 0) with
    | false => rw [hc] at h; cases h
    | true =>
      rw [hc] at h
      simp only [cond_true] at h
      obtain ⟨cs, h3, h⟩ := bind_some' h
      simp only [Bool.and_eq_true, Nat.ble_eq, Bool.not_eq_true'] at hc
      obtain ⟨⟨hf, hb⟩, hz⟩ := hc
      have hz' : len * size ≠ 0 := fun e => by rw [e] at hz; cases hz
      refine ⟨_, _, h, fun {ρ w a} hi hlo hp => ?_⟩
      have hzc := flat_cells hf ρ
      obtain ⟨res', g1, g2⟩ := fill_rel (cells' := (Array.range (len * size)).map fun i => z.cells[i % z.cells.size]!) hp (by rw [repeat_eq]; exact VRels.replicate hzc _) h3
      refine Done.value ?_ (alloc_cells (P := P) hi hlo g2 elem) slice_new
      have e1 : (xs.map fun (i, x) => (i, a.eval x)).toList = xs.toList.map fun (i, x) => (i, a.eval x) := by simp
      simp only [execOp, ho, Instr.buildSlice, Sem.run_bind, run_underlying hu, Result.andThen_ok, calm_run h1, calm_run h2]
      rw [if_neg (by have := Nat.pow_le_pow_right (n := 2) (by decide) (Nat.le_refl 24); omega), if_neg hz']
      simp only [Sem.run_bind, calm_run h2, Result.andThen_ok, Sem.run_pure, e1, g1, newRow, run_newObj]
      rfl
  · cases h

theorem wrap64_in {n : Int} (h1 : -9223372036854775808 ≤ n) (h2 : n ≤ 9223372036854775807) : IntKind.i64.wrap n = n := IntWalk.i64_in n ⟨by omega, by omega⟩

def makeSliceE {R : Type} (P : Program) (H : AH) (t : TypeId) (l c : Value) (k : Value → AH → Option R) : Option R :=
  match P.underlying t, l, c with
  | some (.slice elem), .int _ l, .int _ c =>
    (calm P (typeInfo elem)).bind fun info => (calm P (sizeOf elem)).bind fun size => (calm P (zeroValue elem)).bind fun z =>
      bif flat z && decide (0 ≤ l) && decide (l ≤ c) && decide (c ≤ 4294967296) && decide (info.bytes * c ≤ 281474976710656) && !Nat.beq (c.toNat * size) 0 then
        k (.slice (some ⟨H.next, 0, none⟩) l.toNat c.toNat) (H.push (.cells (repeatE z.cells.toList (c.toNat * size)) 0))
      else none
  | _, _, _ => none

theorem makeSliceE_sound {R : Type} {P : Program} {lo : Nat} {H : AH} {t : TypeId} {xl xc : Operand} {l c : Value} {k : Value → AH → Option R} {r : R}
    (h : makeSliceE P H t l c k = some r) {o : Oper} (ho : o.op = .makeSlice t xl xc) :
    ∃ v H', k v H' = some r ∧ ∀ {ρ : Map} {w : World} {a : Act}, Inv ρ H w → lo ≤ H.next → VRel ρ l (a.eval xl) → VRel ρ c (a.eval xc) → Done P lo o a ρ H w v H' := by
  unfold makeSliceE at h
  split at h
  · rename_i elem kl l kc c hu
    obtain ⟨info, h0, h⟩ := bind_some' h
    obtain ⟨size, h1, h⟩ := bind_some' h
    obtain ⟨z, h2, h⟩ := bind_some' h
    cases hc : (flat z && decide (0 ≤ l) && decide (l ≤ c) && decide (c ≤ 4294967296) && decide (info.bytes * c ≤ 281474976710656) && !Nat.beq (c.toNat * size) 0) with
    | false => rw [hc] at h; cases h
    | true =>
      rw [hc] at h
      simp only [cond_true] at h
      simp only [Bool.and_eq_true, decide_eq_true_eq, Bool.not_eq_true'] at hc
      obtain ⟨⟨⟨⟨⟨hf, g1⟩, g2⟩, g3⟩, g4⟩, hz⟩ := hc
      have hz' : c.toNat * size ≠ 0 := fun e => by rw [e] at hz; cases hz
      refine ⟨_, _, h, fun {ρ w a} hi hlo hl hcp => ?_⟩
      have hnew := alloc_cells (P := P) (lo := lo) (arr := (Array.range (c.toNat * size)).map fun i => z.cells[i % z.cells.size]!) (cs := repeatE z.cells.toList (c.toNat * size)) hi hlo
        (by rw [repeat_eq]; exact VRels.replicate (flat_cells hf ρ) _) elem
      refine Done.value ?_ hnew (VRel.slice (s := ⟨w.heap.size, 0, 0⟩) (o := 0) (upd_same _ _ _))
      generalize hel : a.eval xl = l' at *
      generalize hec : a.eval xc = c' at *
      cases hl; cases hcp
      simp only [execOp, ho, Instr.makeSlice, hel, hec, Sem.run_bind, run_underlying hu, Result.andThen_ok, asInt, asIntOf, Sem.run_pure, calm_run h0, calm_run h1, calm_run h2,
        wrap64_in (n := l) (by omega) (by omega), wrap64_in (n := c) (by omega) (by omega)]
      have t1 : (decide (c < 0) || decide ((info.bytes : Int) * c > 2 ^ 48)) = false := by
        simp only [Bool.or_eq_false_iff, decide_eq_false_iff_not]; omega
      have t2 : ((decide (c < 0) || decide ((info.bytes : Int) * c > 2 ^ 48)) || decide (l < 0) || decide (l > c)) = false := by
        rw [t1]; simp only [Bool.false_or, Bool.or_eq_false_iff, decide_eq_false_iff_not]; omega
      rw [t2]
      simp only [Bool.false_eq_true, if_false, Sem.run_bind, run_askRoom, Result.andThen_ok, calm_run h1, if_neg hz', calm_run h2, Sem.run_pure, newRow, run_newObj]
      rfl
  · cases h

end Go.Vm
