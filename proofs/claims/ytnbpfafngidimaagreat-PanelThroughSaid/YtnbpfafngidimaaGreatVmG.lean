/- Slices, parts and interface values are right; no conditions. Conversions and small built-in functions are right; no conditions. Two structs of whole numbers are compared rightly; no conditions. -/
import Derived.Test.YtnbpfafngidimaaGreatVmD
import Derived.Laws.StructEq
namespace Go.Vm
set_option linter.unusedVariables false
set_option linter.unusedSimpArgs false

theorem bound_run {P : Program} {ρ : Map} {w : World} {v v' : Value} {dflt most most' n : Nat} (hv : VRel ρ v v') (hm : most ≤ most') (h : boundE (some v) dflt most = some n) (code : BoundsCode) :
    (Instr.sliceBound v' most' code).run P w = .ok n w := by
  unfold boundE at h
  split at h
  · cases ‹some v = none›
  · rename_i kk i e
    cases e
    cases hv
    cases hc : (decide (0 ≤ i) && decide (i ≤ (most : Int))) with
    | false => rw [hc] at h; cases h
    | true =>
      rw [hc] at h
      cases h
      simp only [Bool.and_eq_true, decide_eq_true_eq] at hc
      unfold Instr.sliceBound
      simp only [asIntOf, Sem.run_bind, Sem.run_pure, Result.andThen_ok]
      rw [if_pos (by omega)]
      rfl
  · cases h

theorem sliceBounds_run {P : Program} {ρ : Map} {w : World} {lo lo' hi hi' : Option Value} {len cap cap' h l : Nat} (hlo : ORel ρ lo lo') (hhi : ORel ρ hi hi') (hc : cap ≤ cap')
    (h1 : boundE hi len cap = some h) (h2 : boundE lo 0 h = some l) : (Instr.sliceBounds true len cap' lo' hi' none).run P w = .ok (l, h, cap') w := by
  unfold Instr.sliceBounds
  cases hhi with
  | none =>
    simp only [boundE] at h1
    cases h1
    cases hlo with
    | none =>
      simp only [boundE] at h2
      cases h2
      simp
    | some hv =>
      simp [bound_run hv (Nat.le_refl _) h2]
  | some hv =>
    cases hlo with
    | none =>
      simp only [boundE] at h2
      cases h2
      simp [bound_run hv hc h1]
    | some hv2 =>
      simp [bound_run hv hc h1, bound_run hv2 (Nat.le_refl _) h2]

/-- An abstract block that stands for a place alone: nothing is known of what lies there. -/
theorem Next.note {lo : Nat} {ρ : Map} {H : AH} {w : World} (hi : Inv ρ H w) (p : Spot) : Next lo ρ H w (upd ρ H.next p) ⟨H.next + 1, H.objs⟩ w := by
  have hext := upd_ext hi p
  have hat : ∀ k o, (k, o) ∈ H.objs → upd ρ H.next p k = ρ k := fun k o hm => upd_ne (Nat.ne_of_lt (hi.wf k o hm))
  refine
  { inv := ⟨fun k hk => ?_, fun k o hm => Nat.lt_succ_of_lt (hi.wf k o hm), hi.one, ⟨fun k o hm => ?_, fun k o k' o' s s' h1 h2 h3 h4 h5 => ?_⟩⟩
    same := fun k hk => upd_ne (Nat.ne_of_lt hk)
    nx := Nat.le_succ _
    size := Nat.le_refl _
    os := rfl
    tape := rfl
    output := rfl
    keep := fun _ _ _ => rfl
    own := fun k o s hk hm he => ?_
    old := fun _ _ _ => Iff.rfl }
  · simp only at hk
    rw [upd_ne (by omega)]
    exact hi.dom k (by omega)
  · obtain ⟨s, h1, h2⟩ := hi.rel.obj k o hm
    exact ⟨s, hext _ _ h1, h2.mono hext⟩
  · rw [hat k o h1] at h3
    rw [hat k' o' h2] at h4
    exact hi.rel.inj k o k' o' s s' h1 h2 h3 h4 h5
  · rw [hat k o hm] at he
    exact .inr ⟨k, o, s, hk, hm, he, rfl⟩

theorem sliceE_sound {R : Type} {P : Program} {lo : Nat} {H : AH} {t : TypeId} {x : Value} {xo : Operand} {l h : Option Operand} {l' h' : Option Value} {k : Value → AH → Option R} {r : R}
    (hh : sliceE P H t x l' h' k = some r) {o : Oper} (ho : o.op = .slice t xo l h none) :
    ∃ v H', k v H' = some r ∧ ∀ {ρ : Map} {w : World} {a : Act}, Inv ρ H w → VRel ρ x (a.eval xo) → ORel ρ l' (l.map a.eval) → ORel ρ h' (h.map a.eval) → Done P lo o a ρ H w v H' := by
  unfold sliceE at hh
  split at hh
  · rename_i elem ad n c hu
    obtain ⟨h0, g1, hh⟩ := bind_some' hh
    obtain ⟨l0, g2, hh⟩ := bind_some' hh
    obtain ⟨size, g3, hh⟩ := bind_some' hh
    cases hc : ((Nat.blt l0 c || Nat.beq l0 0) && Nat.ble l0 c && ad.spot.isNone) with
    | false =>
      rw [hc] at hh
      simp only [cond_false] at hh
      cases hc2 : (Nat.beq l0 c && Nat.beq h0 l0 && ad.spot.isNone) with
      | false => rw [hc2] at hh; cases hh
      | true =>
        rw [hc2] at hh
        simp only [cond_true] at hh
        simp only [Bool.and_eq_true, Nat.beq_eq] at hc2
        obtain ⟨⟨hc1, hc2⟩, hsp⟩ := hc2
        refine ⟨_, _, hh, fun {ρ w a} hi hx hl hhi => ?_⟩
        generalize he : a.eval xo = x' at *
        cases hx with
        | @slice kb off _ _ sp hk =>
          have hb := sliceBounds_run (P := P) (w := w) (cap' := c + sp.x) hl hhi (by omega) g1 g2
          refine Done.value (w' := w) (v' := .slice (some ⟨sp.b, (if c + sp.x = l0 then sp.d + off else sp.d + off + l0 * size) + 0, none⟩) 0 (0 + sp.x)) ?_
            (Next.note hi ⟨sp.b, if c + sp.x = l0 then sp.d + off else sp.d + off + l0 * size, sp.x⟩) (VRel.slice (s := ⟨sp.b, if c + sp.x = l0 then sp.d + off else sp.d + off + l0 * size, sp.x⟩) (upd_same _ _ _))
          simp only [execOp, ho, he, Instr.sliceAt, Instr.slice, Sem.run_bind, run_underlying hu, Result.andThen_ok, Option.map_none, hb, calm_run g3, Sem.run_pure]
          congr 3
          · by_cases h0 : c + sp.x = l0
            · rw [if_pos h0, if_pos h0]
              simp
            · rw [if_neg h0, if_neg h0]
              simp [add_none]
          · omega
          · omega
    | true =>
      rw [hc] at hh
      simp only [cond_true] at hh
      simp only [Bool.and_eq_true, Bool.or_eq_true, Nat.blt_eq, Nat.beq_eq, Nat.ble_eq] at hc
      obtain ⟨⟨hc1, hc2⟩, hsp⟩ := hc
      refine ⟨_, _, hh, fun {ρ w a} hi hx hl hhi => ?_⟩
      generalize he : a.eval xo = x' at *
      cases hx with
      | @slice kb off _ _ sp hk =>
        refine Done.value (w' := w) (v' := .slice (some ⟨sp.b, sp.d + (off + l0 * size), none⟩) (h0 - l0) (c - l0 + sp.x)) ?_ (Next.refl hi) (VRel.slice hk)
        have hb := sliceBounds_run (P := P) (w := w) (cap' := c + sp.x) hl hhi (by omega) g1 g2
        simp only [execOp, ho, he, Instr.sliceAt, Instr.slice, Sem.run_bind, run_underlying hu, Result.andThen_ok, Option.map_none, hb, calm_run g3, Sem.run_pure]
        congr 3
        · by_cases h0 : c + sp.x = l0
          · rw [if_pos h0]
            have : l0 = 0 := by omega
            subst this
            simp
          · rw [if_neg h0]
            simp [add_none, Nat.add_assoc]
        · omega
  · rename_i elem n c hu
    obtain ⟨h0, g1, hh⟩ := bind_some' hh
    obtain ⟨l0, g2, hh⟩ := bind_some' hh
    obtain ⟨size, g3, hh⟩ := bind_some' hh
    refine ⟨_, _, hh, fun {ρ w a} hi hx hl hhi => ?_⟩
    generalize he : a.eval xo = x' at *
    cases hx with
    | nilSlice =>
      refine Done.value (w' := w) ?_ (Next.refl hi) (VRel.nilSlice _ _)
      have hb := sliceBounds_run (P := P) (w := w) (cap' := c) hl hhi (by omega) g1 g2
      simp only [execOp, ho, he, Instr.sliceAt, Instr.slice, Sem.run_bind, run_underlying hu, Result.andThen_ok, Option.map_none, hb, calm_run g3, Sem.run_pure]
      congr 3
      split <;> simp
  · cases hh

/-! ### Parts of what lies in slots -/
theorem extract_eq (l : List Value) (a n : Nat) : (⟨l⟩ : Array Value).extract a (a + n) = ⟨(l.drop a).take n⟩ := by
  apply Array.ext'
  simp [List.extract_eq_take_drop]

theorem run_part {R : Type} {P : Program} {t : TypeId} {cs : List Value} {off : Nat} {k : Value → Option R} {r : R} (h : loadE P t cs off k = some r) :
    ∃ v, k v = some r ∧ ∀ {ρ : Map} {w : World} {cs' : List Value}, VRels ρ cs cs' → ∃ v', (part t ⟨cs'⟩ off).run P w = .ok v' w ∧ VRel ρ v v' := by
  unfold loadE at h
  cases hrow : isRowB P t with
  | true =>
    simp only [hrow, cond_true] at h
    cases hlen : Nat.ble (off + P.cellsOf t) cs.length && !Nat.beq (P.cellsOf t) 0 with
    | false => simp [hlen] at h
    | true =>
      simp only [hlen, cond_true] at h
      simp only [Bool.and_eq_true, Nat.ble_eq, Bool.not_eq_true'] at hlen
      have hz : P.cellsOf t ≠ 0 := fun e => by have := hlen.2; simp [e] at this
      have hd : ∃ d, P.underlying t = some d ∧ d.isRow = true := by
        unfold isRowB at hrow
        split at hrow
        · exact ⟨_, ‹_›, rfl⟩
        · exact ⟨_, ‹_›, rfl⟩
        · cases hrow
      obtain ⟨d0, hu, hd0⟩ := hd
      refine ⟨_, h, fun {ρ w cs'} hc => ?_⟩
      have hagg : (isAgg t).run P w = .ok true w := by
        unfold isAgg
        rw [Sem.run_bind, run_underlying hu w]
        cases d0 <;> simp_all
      have hsz : (sizeOf t).run P w = .ok (P.cellsOf t) w := by
        have := info_of_cells hz
        cases hq : P.info? t with
        | none => simp [hq] at this
        | some i => simp [hq] at this; simp [sizeOf, typeInfo, hq, this]
      refine ⟨.agg ⟨(cs'.drop off).take (P.cellsOf t)⟩, ?_, .agg ((hc.drop off).take _)⟩
      simp only [part, Sem.run_bind, hagg, Result.andThen_ok, if_true, hsz, Sem.run_pure, extract_eq]
  | false =>
    simp only [hrow, cond_false] at h
    cases hu : P.underlying t with
    | none => simp [hu] at h
    | some d0 =>
      simp only [hu, Option.isSome_some, cond_true] at h
      obtain ⟨v, h1, h2⟩ := bind_some' h
      refine ⟨v, h2, fun {ρ w cs'} hc => ?_⟩
      obtain ⟨v', h3, h4⟩ := hc.get off h1
      have hagg : (isAgg t).run P w = .ok false w := by
        unfold isAgg
        rw [Sem.run_bind, run_underlying hu w]
        unfold isRowB at hrow
        rw [hu] at hrow
        cases d0 <;> simp_all
      refine ⟨v', ?_, h4⟩
      simp [part, hagg, h3]

def fieldE {R : Type} (P : Program) (t : TypeId) (x : Value) (f : Nat) (k : Value → Option R) : Option R :=
  match P.underlying t, x with
  | some (.struct fields), .agg ⟨cs⟩ =>
    match fields[f]? with
    | some fd => loadE P fd.type cs fd.offset k
    | none => none
  | _, _ => none

theorem fieldE_sound {R : Type} {P : Program} {lo : Nat} {H : AH} {t : TypeId} {x : Value} {xo : Operand} {f : Nat} {k : Value → Option R} {r : R} (h : fieldE P t x f k = some r)
    {o : Oper} (ho : o.op = .field t xo f) : ∃ v, k v = some r ∧ ∀ {ρ : Map} {w : World} {a : Act}, Inv ρ H w → VRel ρ x (a.eval xo) → Done P lo o a ρ H w v H := by
  unfold fieldE at h
  split at h
  · rename_i fields cs hu
    split at h
    · rename_i fd hfd
      obtain ⟨v, h1, h2⟩ := run_part h
      refine ⟨v, h1, fun {ρ w a} hi hx => ?_⟩
      generalize he : a.eval xo = x' at *
      cases hx with
      | agg hc =>
        obtain ⟨v', h2, h3⟩ := h2 (w := w) hc
        refine Done.value (w' := w) ?_ (Next.refl hi) h3
        simp only [execOp, ho, he, Instr.field, Sem.run_bind, run_underlying hu, Result.andThen_ok, hfd, asAgg, Sem.run_pure, h2]
    · cases h
  · cases h

def indexE {R : Type} (P : Program) (t : TypeId) (x i : Value) (k : Value → Option R) : Option R :=
  match P.underlying t, x, i with
  | some (.array len elem), .agg ⟨cs⟩, .int _ i =>
    bif decide (0 ≤ i) && decide (i < len) then (calm P (sizeOf elem)).bind fun n => loadE P elem cs (i.toNat * n) k else none
  | _, _, _ => none

theorem indexE_sound {R : Type} {P : Program} {lo : Nat} {H : AH} {t : TypeId} {x i : Value} {xo io : Operand} {k : Value → Option R} {r : R} (h : indexE P t x i k = some r)
    {o : Oper} (ho : o.op = .index t xo io) : ∃ v, k v = some r ∧ ∀ {ρ : Map} {w : World} {a : Act}, Inv ρ H w → VRel ρ x (a.eval xo) → VRel ρ i (a.eval io) → Done P lo o a ρ H w v H := by
  unfold indexE at h
  split at h
  · rename_i len elem cs kk i hu
    cases hc : (decide (0 ≤ i) && decide (i < (len : Int))) with
    | false => rw [hc] at h; cases h
    | true =>
      rw [hc] at h
      simp only [cond_true] at h
      simp only [Bool.and_eq_true, decide_eq_true_eq] at hc
      obtain ⟨n, h1, h⟩ := bind_some' h
      obtain ⟨v, g1, g2⟩ := run_part h
      refine ⟨v, g1, fun {ρ w a} hi hx hy => ?_⟩
      generalize he : a.eval xo = x' at *
      generalize he2 : a.eval io = i' at *
      cases hx with
      | agg hcs =>
        cases hy
        obtain ⟨v', g2, g3⟩ := g2 (w := w) hcs
        refine Done.value (w' := w) ?_ (Next.refl hi) g3
        simp only [execOp, ho, he, he2, Instr.index, Sem.run_bind, run_underlying hu, Result.andThen_ok, asIntOf, Sem.run_pure]
        rw [if_pos hc]
        simp only [Sem.run_bind, calm_run h1, Result.andThen_ok, g2, Sem.run_pure]
  · cases h

def extractE {R : Type} (x : Value) (i : Nat) (k : Value → Option R) : Option R :=
  match x with
  | .tuple ⟨cs⟩ => (cs[i]?).bind k
  | _ => none

theorem extractE_sound {R : Type} {P : Program} {lo : Nat} {H : AH} {x : Value} {xo : Operand} {i : Nat} {k : Value → Option R} {r : R} (h : extractE x i k = some r)
    {o : Oper} (ho : o.op = .extract xo i) : ∃ v, k v = some r ∧ ∀ {ρ : Map} {w : World} {a : Act}, Inv ρ H w → VRel ρ x (a.eval xo) → Done P lo o a ρ H w v H := by
  unfold extractE at h
  split at h
  · rename_i cs
    obtain ⟨v, h1, h⟩ := bind_some' h
    refine ⟨v, h, fun {ρ w a} hi hx => ?_⟩
    generalize he : a.eval xo = x' at *
    cases hx with
    | tuple hc =>
      obtain ⟨v', h3, h4⟩ := hc.get i h1
      refine Done.value (w' := w) ?_ (Next.refl hi) h4
      simp [execOp, ho, he, Instr.extract, h3]
  · cases h

def makeIfaceE {R : Type} (P : Program) (t : TypeId) (x : Value) (k : Value → Option R) : Option R :=
  match P.underlying t with
  | some (.interface _) => none
  | some _ => k (.iface t x)
  | none => none

theorem makeIfaceE_sound {R : Type} {P : Program} {lo : Nat} {H : AH} {t : TypeId} {x : Value} {xo : Operand} {k : Value → Option R} {r : R} (h : makeIfaceE P t x k = some r)
    {o : Oper} (ho : o.op = .makeInterface t xo) : ∃ v, k v = some r ∧ ∀ {ρ : Map} {w : World} {a : Act}, Inv ρ H w → VRel ρ x (a.eval xo) → Done P lo o a ρ H w v H := by
  unfold makeIfaceE at h
  split at h
  · cases h
  · rename_i d hne hu
    refine ⟨_, h, fun {ρ w a} hi hx => Done.value (w' := w) (v' := .iface t (a.eval xo)) ?_ (Next.refl hi) (.iface t hx)⟩
    have : (Instr.makeInterface t (a.eval xo)).run P w = .ok (.iface t (a.eval xo)) w := by
      unfold Instr.makeInterface
      rw [Sem.run_bind, run_underlying hu]
      cases d <;> first | rfl | exact absurd rfl (hne _)
    simp [execOp, ho, this]
  · cases h

def assertE {R : Type} (P : Program) (x : Value) (t : TypeId) (commaOk : Bool) (k : Value → Option R) : Option R :=
  match P.underlying t, x with
  | some (.interface _), _ => none
  | some _, .iface u v =>
    bif Nat.beq u t then k (bif commaOk then .tuple #[v, .bool true] else v)
    else bif commaOk then (calm P (zeroValue t)).bind fun z => bif flat z then k (.tuple #[z, .bool false]) else none
    else none
  | _, _ => none

theorem assertE_sound {R : Type} {P : Program} {lo : Nat} {H : AH} {xt t : TypeId} {x : Value} {xo : Operand} {c : Bool} {k : Value → Option R} {r : R} (h : assertE P x t c k = some r)
    {o : Oper} (ho : o.op = .typeAssert xo xt t c) : ∃ v, k v = some r ∧ ∀ {ρ : Map} {w : World} {a : Act}, Inv ρ H w → VRel ρ x (a.eval xo) → Done P lo o a ρ H w v H := by
  unfold assertE at h
  split at h
  · cases h
  · rename_i d u v hne hu
    cases hb : Nat.beq u t with
    | true =>
      rw [hb] at h
      have := Nat.eq_of_beq_eq_true hb
      subst this
      refine ⟨_, h, fun {ρ w a} hi hx => ?_⟩
      generalize he : a.eval xo = x' at *
      cases hx with
      | iface _ hv =>
        rename_i v'
        have hrun : (Instr.typeAssert (.iface u v') xt u c).run P w = .ok (if c then .tuple #[v', .bool true] else v') w := by
          unfold Instr.typeAssert
          rw [Sem.run_bind, run_underlying hu]
          cases d <;> first | exact absurd rfl (hne _) | simp
        cases c with
        | true => exact Done.value (w' := w) (by simp [execOp, ho, he, hrun]) (Next.refl hi) (.tuple (.cons hv (.cons (.bool _) .nil)))
        | false => exact Done.value (w' := w) (by simp [execOp, ho, he, hrun]) (Next.refl hi) hv
    | false =>
      rw [hb] at h
      cases c with
      | false => cases h
      | true =>
        simp only [cond_true, cond_false] at h
        obtain ⟨z, h1, h⟩ := bind_some' h
        cases hf : flat z with
        | false => rw [hf] at h; cases h
        | true =>
          rw [hf] at h
          refine ⟨_, h, fun {ρ w a} hi hx => ?_⟩
          generalize he : a.eval xo = x' at *
          cases hx with
          | iface _ hv =>
            rename_i v'
            refine Done.value (w' := w) (v' := .tuple #[z, .bool false]) ?_ (Next.refl hi) (.tuple (.cons (VRel.ofFlat ρ hf) (.cons (.bool _) .nil)))
            have hne' : u ≠ t := fun e => by subst e; simp at hb
            have hrun : (Instr.typeAssert (.iface u v') xt t true).run P w = .ok (.tuple #[z, .bool false]) w := by
              unfold Instr.typeAssert
              rw [Sem.run_bind, run_underlying hu]
              cases d <;> first | exact absurd rfl (hne _) | simp [hne', calm_run h1]
            simp [execOp, ho, he, hrun]
  · cases h

def nilCheckE {R : Type} (x : Value) (k : Value → Option R) : Option R :=
  match x with
  | .pointer (some _) => k x
  | .func (.func _) _ _ => k x
  | _ => none

theorem nilCheckE_sound {R : Type} {P : Program} {lo : Nat} {H : AH} {x : Value} {xo : Operand} {k : Value → Option R} {r : R} (h : nilCheckE x k = some r)
    {o : Oper} (ho : o.op = .nilCheck xo) : ∃ v, k v = some r ∧ ∀ {ρ : Map} {w : World} {a : Act}, Inv ρ H w → VRel ρ x (a.eval xo) → Done P lo o a ρ H w v H := by
  unfold nilCheckE at h
  split at h
  · refine ⟨_, h, fun {ρ w a} hi hx => ?_⟩
    generalize he : a.eval xo = x' at *
    cases hx with
    | ptr hk => exact Done.value (w' := w) (by simp [execOp, ho, he]) (Next.refl hi) (.ptr hk)
  · refine ⟨_, h, fun {ρ w a} hi hx => ?_⟩
    generalize he : a.eval xo = x' at *
    cases hx with
    | func _ ha hb => exact Done.value (w' := w) (by simp [execOp, ho, he]) (Next.refl hi) (.func _ ha hb)
  · cases h

end Go.Vm
namespace Go.Vm
set_option linter.unusedVariables false
set_option linter.unusedSimpArgs false

/-! ### One operand -/
def unE {R : Type} (op : UnOp) (x : Value) (k : Value → Option R) (other : Option R) : Option R :=
  match op, x with
  | .neg, .float .f64 b => forceN (Op.negFloat .f64 b) fun n => k (.float .f64 n)
  | .not, .bool b => k (.bool (!b))
  | _, _ => other

theorem unE_sound {R : Type} {P : Program} {op : UnOp} {x : Value} {k : Value → Option R} {other : Option R} {r : R} (h : unE op x k other = some r) :
    other = some r ∨ ∃ v, k v = some r ∧ flat v = true ∧ ∀ {ρ : Map} {w : World} {x' : Value}, VRel ρ x x' → (Op.unary op x').run P w = .ok v w := by
  unfold unE at h
  split at h
  · rw [forceN_eq] at h
    exact .inr ⟨_, h, rfl, fun hx => by cases hx; rfl⟩
  · exact .inr ⟨_, h, rfl, fun hx => by cases hx; rfl⟩
  · exact .inl h

def convE {R : Type} (fi : Fi) (P : Program) (s d : TypeId) (x : Value) (k : Value → Option R) (other : Option R) : Option R :=
  bif (P.underlying s).isSome then
    match P.underlying d, x with
    | some (.int kk), .int _ n => fi R (kk.wrap n) fun n => k (.int kk n)
    | some (.float .f64), .int _ n => forceN (floatOfInt .f64 n) fun b => k (.float .f64 b)
    | some (.int kk), .float .f64 b => (floatToIntVal .f64 b kk).bind fun n => fi R n fun n => k (.int kk n)
    | _, _ => other
  else other

theorem convE_sound {R : Type} {P : Program} {s d : TypeId} {x : Value} {k : Value → Option R} {other : Option R} {r : R} {fi : Fi} (hfi : fi.Fair) (h : convE fi P s d x k other = some r) :
    other = some r ∨ ∃ v, k v = some r ∧ flat v = true ∧ ∀ {ρ : Map} {w : World} {x' : Value}, VRel ρ x x' → (convert s d x').run P w = .ok v w := by
  unfold convE at h
  cases hs : (P.underlying s).isSome with
  | false => rw [hs] at h; exact .inl h
  | true =>
    rw [hs] at h
    simp only [cond_true] at h
    obtain ⟨u, hu⟩ := Option.isSome_iff_exists.1 hs
    split at h
    · rename_i kk k2 n hd
      rw [hfi] at h
      refine .inr ⟨_, h, rfl, fun {ρ w x'} hx => ?_⟩
      cases hx
      cases u <;> simp [convert, run_underlying hu, run_underlying hd, Conv.intToInt]
    · rename_i k2 n hd
      rw [forceN_eq] at h
      refine .inr ⟨_, h, rfl, fun {ρ w x'} hx => ?_⟩
      cases hx
      cases u <;> simp [convert, run_underlying hu, run_underlying hd, Conv.intToFloat] <;> rfl
    · rename_i kk b hd
      obtain ⟨n, h1, h⟩ := bind_some' h
      rw [hfi] at h
      exact .inr ⟨_, h, rfl, fun {ρ w x'} hx => by cases hx; exact run_convert_float_int w s d .f64 kk b n hs hd h1⟩
    · exact .inl h

def pickE {R : Type} (c : Value) (x y : Option Value) (k : Value → Option R) : Option R :=
  match c with
  | .bool t =>
    match x, y with
    | some (.bool u), some (.bool v) => k (.bool (bif t then u else v))
    | _, _ => bif t then x.bind k else y.bind k
  | _ => none

/-! ### Built-in functions that touch no memory -/
def builtinE {R : Type} (P : Program) (b : Builtin) (ts : Array TypeId) (vs : List Value) (k : Value → Option R) (other : Option R) : Option R :=
  match b, vs with
  | .real, [.complex .f64 re im] => k (.float .f64 re)
  | .imag, [.complex .f64 re im] => k (.float .f64 im)
  | .complex, [.float .f64 re, .float .f64 im] => k (.complex .f64 re im)
  | .len, [.slice a n c] =>
    match ts[0]? with
    | some t =>
      match P.underlying t with
      | some (.slice _) => k (.int .i64 n)
      | _ => none
    | none => none
  | _, _ => other

theorem builtinE_sound {R : Type} {P : Program} {b : Builtin} {ts : Array TypeId} {ty : TypeId} {vs : List Value} {k : Value → Option R} {other : Option R} {r : R} (h : builtinE P b ts vs k other = some r) :
    other = some r ∨ ∃ v, k v = some r ∧ flat v = true ∧ ∀ {ρ : Map} {w : World} {cs : Array Bool} {vs' : List Value}, VRels ρ vs vs' → (builtin b ts ty cs ⟨vs'⟩).run P w = .ok (.value v) w := by
  unfold builtinE at h
  split at h
  · refine .inr ⟨_, h, rfl, fun {ρ w cs vs'} hx => ?_⟩
    obtain _ | ⟨h1, h2⟩ := hx
    cases h1; cases h2
    rfl
  · refine .inr ⟨_, h, rfl, fun {ρ w cs vs'} hx => ?_⟩
    obtain _ | ⟨h1, h2⟩ := hx
    cases h1; cases h2
    rfl
  · refine .inr ⟨_, h, rfl, fun {ρ w cs vs'} hx => ?_⟩
    obtain _ | ⟨h1, h2⟩ := hx
    obtain _ | ⟨h2, h3⟩ := h2
    cases h1; cases h2; cases h3
    simp only [builtin, Sem.run_bind, run_complex, Result.andThen_ok, Sem.run_pure]
  · rename_i a n c
    split at h
    · rename_i t ht
      split at h
      · rename_i e hu
        refine .inr ⟨_, h, rfl, fun {ρ w cs vs'} hx => ?_⟩
        obtain _ | ⟨h1, h2⟩ := hx
        cases h2
        cases h1 <;> simp [builtin, Builtin.len_, ht, run_underlying hu, goInt]
      · cases h
    · cases h
  · exact .inl h

theorem run_call_builtin {P : Program} {a : Act} {o : Oper} {c : Call} {b : Builtin} {w : World} (ho : o.op = .call c) (hc : c.callee = .builtin b) :
    ∃ cs, (execOp a.eval o).run P w = (builtin b c.argTypes o.type cs (c.args.map a.eval)).run P w := by
  refine ⟨c.args.map fun | .const _ => true | _ => false, ?_⟩
  simp only [execOp, ho, resolve, hc, invoke, Sem.run_bind, Sem.run_pure, Result.andThen_ok]
  rfl

end Go.Vm
namespace Go.Vm
set_option linter.unusedVariables false
set_option linter.unusedSimpArgs false

/-! ### Two structs of whole numbers compared -/
def eqFieldsE {R : Type} (P : Program) (xs ys : List Value) : List Field → (Bool → Option R) → Option R
  | [], k => k true
  | f :: fs, k =>
    bif f.name == "_" then none
    else loadE P f.type xs f.offset fun a => loadE P f.type ys f.offset fun b =>
      match a, b with
      | .int ka x, .int kb y => bif decide (ka = kb) then forceB (x == y) fun t => match t with
          | true => eqFieldsE P xs ys fs k
          | false => k false
        else none
      | _, _ => none

def intFields (P : Program) : List Field → Bool
  | [] => true
  | f :: fs => (match P.underlying f.type with | some (.int _) => true | _ => false) && intFields P fs

theorem eqFieldsE_sound {R : Type} {P : Program} {xs ys : List Value} {d : Nat} : ∀ {fs : List Field} {k : Bool → Option R} {r : R}, intFields P fs = true → eqFieldsE P xs ys fs k = some r →
    ∃ b, k b = some r ∧ ∀ {ρ : Map} {w : World} {xs' ys' : List Value}, VRels ρ xs xs' → VRels ρ ys ys' → (Op.eqFields (d + 1) ⟨xs'⟩ ⟨ys'⟩ fs).run P w = .ok b w
  | [], k, r, _, h => ⟨true, h, fun _ _ => rfl⟩
  | f :: fs, k, r, hi, h => by
    simp only [intFields, Bool.and_eq_true] at hi
    obtain ⟨hi1, hi2⟩ := hi
    unfold eqFieldsE at h
    cases hn : (f.name == "_") with
    | true => rw [hn] at h; cases h
    | false =>
      rw [hn] at h
      simp only [cond_false] at h
      obtain ⟨a, h1, g1⟩ := run_part h
      obtain ⟨b, h2, g2⟩ := run_part h1
      split at h2
      · rename_i ka x kb y
        cases hk : decide (ka = kb) with
        | false => rw [hk] at h2; cases h2
        | true =>
          rw [hk] at h2
          have hkk := of_decide_eq_true hk
          subst hkk
          simp only [cond_true] at h2
          rw [forceB_eq] at h2
          have hname : f.name ≠ "_" := by simpa using hn
          have hu : ∃ kk, P.underlying f.type = some (.int kk) := by
            split at hi1
            · exact ⟨_, ‹_›⟩
            · cases hi1
          obtain ⟨kk, hu⟩ := hu
          cases hxy : (x == y) with
          | false =>
            rw [hxy] at h2
            refine ⟨false, h2, fun {ρ w xs' ys'} hx hy => ?_⟩
            obtain ⟨a', e1, r1⟩ := g1 hx (w := w)
            obtain ⟨b', e2, r2⟩ := g2 hy (w := w)
            cases r1; cases r2
            unfold Op.eqFields
            rw [if_pos hname]
            simp only [Sem.run_bind, e1, e2, Result.andThen_ok, run_equalIn_int (P := P) w d f.type _ _ x y hu, hxy]
            simp
          | true =>
            rw [hxy] at h2
            simp only at h2
            obtain ⟨b, h3, g3⟩ := eqFieldsE_sound (d := d) hi2 h2
            refine ⟨b, h3, fun {ρ w xs' ys'} hx hy => ?_⟩
            obtain ⟨a', e1, r1⟩ := g1 hx (w := w)
            obtain ⟨b', e2, r2⟩ := g2 hy (w := w)
            cases r1; cases r2
            unfold Op.eqFields
            rw [if_pos hname]
            simp only [Sem.run_bind, e1, e2, Result.andThen_ok, run_equalIn_int (P := P) w d f.type _ _ x y hu, hxy]
            simp
            exact g3 hx hy
      · cases h2

def eqAggE {R : Type} (P : Program) (op : BinOp) (t : TypeId) (x y : Value) (k : Value → Option R) (other : Option R) : Option R :=
  match x, y with
  | .agg ⟨xs⟩, .agg ⟨ys⟩ =>
    match P.underlying t with
    | some (.struct fs) =>
      bif intFields P fs.toList && !(P.stoodInHeld t) && !(P.eqGuardType P.depth t) then
        match op with
        | .eql => eqFieldsE P xs ys fs.toList fun b => k (.bool b)
        | .neq => eqFieldsE P xs ys fs.toList fun b => k (.bool (!b))
        | _ => other
      else other
    | _ => other
  | _, _ => other

theorem eqAggE_sound {R : Type} {P : Program} {op : BinOp} {t : TypeId} {ox oy : Operand} {x y : Value} {k : Value → Option R} {other : Option R} {r : R} (h : eqAggE P op t x y k other = some r) :
    other = some r ∨ ∃ v, k v = some r ∧ flat v = true ∧ ∀ {ρ : Map} {w : World} {x' y' : Value}, VRel ρ x x' → VRel ρ y y' → ((do eqGuard op t ox oy x' y'; binOp op t x' y') : Sem Value).run P w = .ok v w := by
  unfold eqAggE at h
  split at h
  · rename_i xs ys
    split at h
    · rename_i fs hu
      cases hc : (intFields P fs.toList && !(P.stoodInHeld t) && !(P.eqGuardType P.depth t)) with
      | false => rw [hc] at h; exact .inl h
      | true =>
        rw [hc] at h
        simp only [Bool.and_eq_true, Bool.not_eq_true'] at hc
        obtain ⟨⟨c1, c2⟩, c3⟩ := hc
        have hf : P.fieldsOf t = fs := by unfold Program.fieldsOf; rw [hu]
        have key : ∀ {b : Bool} {ρ : Map} {w : World} {xs' ys' : List Value}, (∀ {ρ : Map} {w : World} {xs' ys' : List Value}, VRels ρ xs xs' → VRels ρ ys ys' → (Op.eqFields (9998 + 1) ⟨xs'⟩ ⟨ys'⟩ fs.toList).run P w = .ok b w) →
            VRels ρ xs xs' → VRels ρ ys ys' → (Op.equalIn 10000 t (.agg ⟨xs'⟩) (.agg ⟨ys'⟩)).run P w = .ok b w := fun {b ρ w xs' ys'} g hx hy => by
          rw [show (10000 : Nat) = 9999 + 1 from rfl, run_equalIn_agg w 9999 t _ _ (by rw [hf]; exact hu) c2, hf]
          exact g hx hy
        simp only [cond_true] at h
        split at h
        · obtain ⟨b, h1, g1⟩ := eqFieldsE_sound (d := 9998) c1 h
          refine .inr ⟨_, h1, rfl, fun {ρ w x' y'} hx hy => ?_⟩
          cases hx with | agg hx =>
          cases hy with | agg hy =>
          rw [Sem.run_bind, run_eqGuard_agg w _ t ox oy _ _ c3, Result.andThen_ok, run_eql_struct, key g1 hx hy]
          rfl
        · obtain ⟨b, h1, g1⟩ := eqFieldsE_sound (d := 9998) c1 h
          refine .inr ⟨_, h1, rfl, fun {ρ w x' y'} hx hy => ?_⟩
          cases hx with | agg hx =>
          cases hy with | agg hy =>
          rw [Sem.run_bind, run_eqGuard_agg w _ t ox oy _ _ c3, Result.andThen_ok, run_neq_struct, key g1 hx hy]
          rfl
        · exact .inl h
    · exact .inl h
  · exact .inl h
end Go.Vm
