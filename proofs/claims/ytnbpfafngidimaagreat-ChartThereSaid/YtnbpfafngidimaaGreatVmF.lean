/- Addresses of fields and elements are right; no conditions. Slices, parts and interface values are right; no conditions. -/
import Derived.Test.YtnbpfafngidimaaGreatVmD
namespace Go.Vm
set_option linter.unusedVariables false
set_option linter.unusedSimpArgs false

/-! ### Addresses -/
def fieldAddrE {R : Type} (P : Program) (s : TypeId) (x : Value) (f : Nat) (k : Value → Option R) : Option R :=
  match x, P.underlying s with
  | .pointer (some ad), some (.struct fields) =>
    match fields[f]? with
    | some fd => (calm P (sizeOf fd.type)).bind fun n => bif !Nat.beq n 0 && ad.spot.isNone then k (.pointer (some ⟨ad.block, ad.off + fd.offset, none⟩)) else none
    | none => none
  | _, _ => none

theorem add_none (b o n : Nat) : (⟨b, o, none⟩ : Addr).add n = ⟨b, o + n, none⟩ := by unfold Addr.add; split <;> simp_all

theorem fieldAddrE_sound {R : Type} {P : Program} {lo : Nat} {H : AH} {s : TypeId} {x : Value} {xo : Operand} {f : Nat} {k : Value → Option R} {r : R} (h : fieldAddrE P s x f k = some r)
    {o : Oper} (ho : o.op = .fieldAddr s xo f) : ∃ v, k v = some r ∧ ∀ {ρ : Map} {w : World} {a : Act}, Inv ρ H w → VRel ρ x (a.eval xo) → Done P lo o a ρ H w v H := by
  unfold fieldAddrE at h
  split at h
  · rename_i ad fields hu
    split at h
    · rename_i fd hfd
      obtain ⟨n, h1, h⟩ := bind_some' h
      cases hc : (!Nat.beq n 0 && ad.spot.isNone) with
      | false => rw [hc] at h; cases h
      | true =>
        rw [hc] at h
        simp only [cond_true] at h
        simp only [Bool.and_eq_true, Bool.not_eq_true'] at hc
        have hn : n ≠ 0 := fun e => by rw [e] at hc; cases hc.1
        refine ⟨_, h, fun {ρ w a} hi hx => ?_⟩
        generalize he : a.eval xo = x' at *
        cases hx with
        | ptr hk =>
          rename_i kb off sp
          refine Done.value (w' := w) ?_ (Next.refl hi) (VRel.ptr hk)
          simp only [execOp, ho, he, Instr.fieldAt, Instr.sureAddr, fieldPlace, Sem.run_bind, run_underlying hu, Result.andThen_ok, hfd, Sem.run_pure, calm_run h1]
          simp [hn, add_none, Nat.add_assoc]
    · cases h
  · cases h

def indexAddrE {R : Type} (P : Program) (t : TypeId) (x i : Value) (k : Value → Option R) : Option R :=
  match P.underlying t, x, i with
  | some (.array len elem), .pointer (some ad), .int _ i =>
    bif decide (0 ≤ i) && decide (i < len) && ad.spot.isNone then (calm P (sizeOf elem)).bind fun n => k (.pointer (some ⟨ad.block, ad.off + i.toNat * n, none⟩)) else none
  | some (.slice elem), .slice (some ad) len _, .int _ i =>
    bif decide (0 ≤ i) && decide (i < len) && ad.spot.isNone then (calm P (sizeOf elem)).bind fun n => k (.pointer (some ⟨ad.block, ad.off + i.toNat * n, none⟩)) else none
  | _, _, _ => none

theorem indexAddrE_sound {R : Type} {P : Program} {lo : Nat} {H : AH} {t : TypeId} {x i : Value} {xo io : Operand} {k : Value → Option R} {r : R} (h : indexAddrE P t x i k = some r)
    {o : Oper} (ho : o.op = .indexAddr t xo io) : ∃ v, k v = some r ∧ ∀ {ρ : Map} {w : World} {a : Act}, Inv ρ H w → VRel ρ x (a.eval xo) → VRel ρ i (a.eval io) → Done P lo o a ρ H w v H := by
  unfold indexAddrE at h
  split at h
  · rename_i len elem ad kk i hu
    cases hc : (decide (0 ≤ i) && decide (i < (len : Int)) && ad.spot.isNone) with
    | false => rw [hc] at h; cases h
    | true =>
      rw [hc] at h
      simp only [cond_true] at h
      simp only [Bool.and_eq_true, decide_eq_true_eq] at hc
      obtain ⟨n, h1, h⟩ := bind_some' h
      refine ⟨_, h, fun {ρ w a} hi hx hy => ?_⟩
      generalize he : a.eval xo = x' at *
      generalize he2 : a.eval io = i' at *
      cases hx with
      | ptr hk =>
        cases hy
        refine Done.value (w' := w) ?_ (Next.refl hi) (VRel.ptr hk)
        simp only [execOp, ho, he, he2, Instr.indexAt, Instr.sureAddr, asIntOf, Sem.run_bind, run_underlying hu, Result.andThen_ok, Sem.run_pure, calm_run h1]
        rw [if_pos hc.1]
        simp [calm_run h1, add_none, Nat.add_assoc]
  · rename_i elem ad len cap kk i hu
    cases hc : (decide (0 ≤ i) && decide (i < (len : Int)) && ad.spot.isNone) with
    | false => rw [hc] at h; cases h
    | true =>
      rw [hc] at h
      simp only [cond_true] at h
      simp only [Bool.and_eq_true, decide_eq_true_eq] at hc
      obtain ⟨n, h1, h⟩ := bind_some' h
      refine ⟨_, h, fun {ρ w a} hi hx hy => ?_⟩
      generalize he : a.eval xo = x' at *
      generalize he2 : a.eval io = i' at *
      cases hx with
      | slice hk =>
        cases hy
        refine Done.value (w' := w) ?_ (Next.refl hi) (VRel.ptr hk)
        simp only [execOp, ho, he, he2, Instr.indexAt, asIntOf, Sem.run_bind, run_underlying hu, Result.andThen_ok, Sem.run_pure]
        rw [if_pos hc.1]
        simp [calm_run h1, add_none, Nat.add_assoc]
  · cases h

/-! ### Slices of slices -/
def boundE (x : Option Value) (dflt : Nat) (most : Nat) : Option Nat :=
  match x with
  | none => some dflt
  | some (.int _ i) => bif decide (0 ≤ i) && decide (i ≤ most) then some i.toNat else none
  | _ => none

def sliceE {R : Type} (P : Program) (t : TypeId) (x : Value) (lo hi : Option Value) (k : Value → Option R) : Option R :=
  match P.underlying t, x with
  | some (.slice elem), .slice (some ad) n c =>
    (boundE hi n c).bind fun h => (boundE lo 0 h).bind fun l => (calm P (sizeOf elem)).bind fun size =>
      bif (Nat.blt l c || Nat.beq l 0) && Nat.ble l c && ad.spot.isNone then k (.slice (some ⟨ad.block, ad.off + l * size, none⟩) (h - l) (c - l)) else none
  | some (.slice elem), .slice none n c =>
    (boundE hi n c).bind fun h => (boundE lo 0 h).bind fun l => (calm P (sizeOf elem)).bind fun size => k (.slice none (h - l) (c - l))
  | _, _ => none

inductive ORel (ρ : Map) : Option Value → Option Value → Prop
  | none : ORel ρ none none
  | some {v v' : Value} (h : VRel ρ v v') : ORel ρ (some v) (some v')


end Go.Vm
namespace Go.Vm
set_option linter.unusedVariables false
set_option linter.unusedSimpArgs false

theorem bound_run {P : Program} {ρ : Map} {w : World} {v v' : Value} {dflt most most' n : Nat} (hv : VRel ρ v v') (hm : most ≤ most') (h : boundE (some v) dflt most = some n) (code : BoundsCode) :
    (Instr.sliceBound v' most' code).run P w = .ok n w := by
  unfold boundE at h
  split at h
  · cases ‹some v = none›
  · rename_i kk i e
    cases e
    cases hv
    cases hc : (decide (0 ≤ i) && decide (i ≤ (most : Int))) with
    | false => rw [hc] at h; cases h
    | true =>
      rw [hc] at h
      cases h
      simp only [Bool.and_eq_true, decide_eq_true_eq] at hc
      unfold Instr.sliceBound
      simp only [asIntOf, Sem.run_bind, Sem.run_pure, Result.andThen_ok]
      rw [if_pos (by omega)]
      rfl
  · cases h

theorem sliceBounds_run {P : Program} {ρ : Map} {w : World} {lo lo' hi hi' : Option Value} {len cap cap' h l : Nat} (hlo : ORel ρ lo lo') (hhi : ORel ρ hi hi') (hc : cap ≤ cap')
    (h1 : boundE hi len cap = some h) (h2 : boundE lo 0 h = some l) : (Instr.sliceBounds true len cap' lo' hi' none).run P w = .ok (l, h, cap') w := by
  unfold Instr.sliceBounds
  cases hhi with
  | none =>
    simp only [boundE] at h1
    cases h1
    cases hlo with
    | none =>
      simp only [boundE] at h2
      cases h2
      simp
    | some hv =>
      simp [bound_run hv (Nat.le_refl _) h2]
  | some hv =>
    cases hlo with
    | none =>
      simp only [boundE] at h2
      cases h2
      simp [bound_run hv hc h1]
    | some hv2 =>
      simp [bound_run hv hc h1, bound_run hv2 (Nat.le_refl _) h2]

theorem sliceE_sound {R : Type} {P : Program} {lo : Nat} {H : AH} {t : TypeId} {x : Value} {xo : Operand} {l h : Option Operand} {l' h' : Option Value} {k : Value → Option R} {r : R}
    (hh : sliceE P t x l' h' k = some r) {o : Oper} (ho : o.op = .slice t xo l h none) :
    ∃ v, k v = some r ∧ ∀ {ρ : Map} {w : World} {a : Act}, Inv ρ H w → VRel ρ x (a.eval xo) → ORel ρ l' (l.map a.eval) → ORel ρ h' (h.map a.eval) → Done P lo o a ρ H w v H := by
  unfold sliceE at hh
  split at hh
  · rename_i elem ad n c hu
    obtain ⟨h0, g1, hh⟩ := bind_some' hh
    obtain ⟨l0, g2, hh⟩ := bind_some' hh
    obtain ⟨size, g3, hh⟩ := bind_some' hh
    cases hc : ((Nat.blt l0 c || Nat.beq l0 0) && Nat.ble l0 c && ad.spot.isNone) with
    | false => rw [hc] at hh; cases hh
    | true =>
      rw [hc] at hh
      simp only [cond_true] at hh
      simp only [Bool.and_eq_true, Bool.or_eq_true, Nat.blt_eq, Nat.beq_eq, Nat.ble_eq] at hc
      obtain ⟨⟨hc1, hc2⟩, hsp⟩ := hc
      refine ⟨_, hh, fun {ρ w a} hi hx hl hhi => ?_⟩
      generalize he : a.eval xo = x' at *
      cases hx with
      | @slice kb off _ _ sp hk =>
        refine Done.value (w' := w) (v' := .slice (some ⟨sp.b, sp.d + (off + l0 * size), none⟩) (h0 - l0) (c - l0 + sp.x)) ?_ (Next.refl hi) (VRel.slice hk)
        have hb := sliceBounds_run (P := P) (w := w) (cap' := c + sp.x) hl hhi (by omega) g1 g2
        simp only [execOp, ho, he, Instr.sliceAt, Instr.slice, Sem.run_bind, run_underlying hu, Result.andThen_ok, Option.map_none, hb, calm_run g3, Sem.run_pure]
        congr 3
        · by_cases h0 : c + sp.x = l0
          · rw [if_pos h0]
            have : l0 = 0 := by omega
            subst this
            simp
          · rw [if_neg h0]
            simp [add_none, Nat.add_assoc]
        · omega
  · rename_i elem n c hu
    obtain ⟨h0, g1, hh⟩ := bind_some' hh
    obtain ⟨l0, g2, hh⟩ := bind_some' hh
    obtain ⟨size, g3, hh⟩ := bind_some' hh
    refine ⟨_, hh, fun {ρ w a} hi hx hl hhi => ?_⟩
    generalize he : a.eval xo = x' at *
    cases hx with
    | nilSlice =>
      refine Done.value (w' := w) ?_ (Next.refl hi) (VRel.nilSlice _ _)
      have hb := sliceBounds_run (P := P) (w := w) (cap' := c) hl hhi (by omega) g1 g2
      simp only [execOp, ho, he, Instr.sliceAt, Instr.slice, Sem.run_bind, run_underlying hu, Result.andThen_ok, Option.map_none, hb, calm_run g3, Sem.run_pure]
      congr 3
      split <;> simp
  · cases hh

/-! ### Parts of what lies in slots -/
theorem extract_eq (l : List Value) (a n : Nat) : (⟨l⟩ : Array Value).extract a (a + n) = ⟨(l.drop a).take n⟩ := by
  apply Array.ext'
  simp [List.extract_eq_take_drop]

theorem run_part {R : Type} {P : Program} {t : TypeId} {cs : List Value} {off : Nat} {k : Value → Option R} {r : R} (h : loadE P t cs off k = some r) :
    ∃ v, k v = some r ∧ ∀ {ρ : Map} {w : World} {cs' : List Value}, VRels ρ cs cs' → ∃ v', (part t ⟨cs'⟩ off).run P w = .ok v' w ∧ VRel ρ v v' := by
  unfold loadE at h
  cases hrow : isRowB P t with
  | true =>
    simp only [hrow, cond_true] at h
    cases hlen : Nat.ble (off + P.cellsOf t) cs.length && !Nat.beq (P.cellsOf t) 0 with
    | false => simp [hlen] at h
    | true =>
      simp only [hlen, cond_true] at h
      simp only [Bool.and_eq_true, Nat.ble_eq, Bool.not_eq_true'] at hlen
      have hz : P.cellsOf t ≠ 0 := fun e => by have := hlen.2; simp [e] at this
      have hd : ∃ d, P.underlying t = some d ∧ d.isRow = true := by
        unfold isRowB at hrow
        split at hrow
        · exact ⟨_, ‹_›, rfl⟩
        · exact ⟨_, ‹_›, rfl⟩
        · cases hrow
      obtain ⟨d0, hu, hd0⟩ := hd
      refine ⟨_, h, fun {ρ w cs'} hc => ?_⟩
      have hagg : (isAgg t).run P w = .ok true w := by
        unfold isAgg
        rw [Sem.run_bind, run_underlying hu w]
        cases d0 <;> simp_all
      have hsz : (sizeOf t).run P w = .ok (P.cellsOf t) w := by
        have := info_of_cells hz
        cases hq : P.info? t with
        | none => simp [hq] at this
        | some i => simp [hq] at this; simp [sizeOf, typeInfo, hq, this]
      refine ⟨.agg ⟨(cs'.drop off).take (P.cellsOf t)⟩, ?_, .agg ((hc.drop off).take _)⟩
      simp only [part, Sem.run_bind, hagg, Result.andThen_ok, if_true, hsz, Sem.run_pure, extract_eq]
  | false =>
    simp only [hrow, cond_false] at h
    cases hu : P.underlying t with
    | none => simp [hu] at h
    | some d0 =>
      simp only [hu, Option.isSome_some, cond_true] at h
      obtain ⟨v, h1, h2⟩ := bind_some' h
      refine ⟨v, h2, fun {ρ w cs'} hc => ?_⟩
      obtain ⟨v', h3, h4⟩ := hc.get off h1
      have hagg : (isAgg t).run P w = .ok false w := by
        unfold isAgg
        rw [Sem.run_bind, run_underlying hu w]
        unfold isRowB at hrow
        rw [hu] at hrow
        cases d0 <;> simp_all
      refine ⟨v', ?_, h4⟩
      simp [part, hagg, h3]

def fieldE {R : Type} (P : Program) (t : TypeId) (x : Value) (f : Nat) (k : Value → Option R) : Option R :=
  match P.underlying t, x with
  | some (.struct fields), .agg ⟨cs⟩ =>
    match fields[f]? with
    | some fd => loadE P fd.type cs fd.offset k
    | none => none
  | _, _ => none

theorem fieldE_sound {R : Type} {P : Program} {lo : Nat} {H : AH} {t : TypeId} {x : Value} {xo : Operand} {f : Nat} {k : Value → Option R} {r : R} (h : fieldE P t x f k = some r)
    {o : Oper} (ho : o.op = .field t xo f) : ∃ v, k v = some r ∧ ∀ {ρ : Map} {w : World} {a : Act}, Inv ρ H w → VRel ρ x (a.eval xo) → Done P lo o a ρ H w v H := by
  unfold fieldE at h
  split at h
  · rename_i fields cs hu
    split at h
    · rename_i fd hfd
      obtain ⟨v, h1, h2⟩ := run_part h
      refine ⟨v, h1, fun {ρ w a} hi hx => ?_⟩
      generalize he : a.eval xo = x' at *
      cases hx with
      | agg hc =>
        obtain ⟨v', h2, h3⟩ := h2 (w := w) hc
        refine Done.value (w' := w) ?_ (Next.refl hi) h3
        simp only [execOp, ho, he, Instr.field, Sem.run_bind, run_underlying hu, Result.andThen_ok, hfd, asAgg, Sem.run_pure, h2]
    · cases h
  · cases h

def indexE {R : Type} (P : Program) (t : TypeId) (x i : Value) (k : Value → Option R) : Option R :=
  match P.underlying t, x, i with
  | some (.array len elem), .agg ⟨cs⟩, .int _ i =>
    bif decide (0 ≤ i) && decide (i < len) then (calm P (sizeOf elem)).bind fun n => loadE P elem cs (i.toNat * n) k else none
  | _, _, _ => none

theorem indexE_sound {R : Type} {P : Program} {lo : Nat} {H : AH} {t : TypeId} {x i : Value} {xo io : Operand} {k : Value → Option R} {r : R} (h : indexE P t x i k = some r)
    {o : Oper} (ho : o.op = .index t xo io) : ∃ v, k v = some r ∧ ∀ {ρ : Map} {w : World} {a : Act}, Inv ρ H w → VRel ρ x (a.eval xo) → VRel ρ i (a.eval io) → Done P lo o a ρ H w v H := by
  unfold indexE at h
  split at h
  · rename_i len elem cs kk i hu
    cases hc : (decide (0 ≤ i) && decide (i < (len : Int))) with
    | false => rw [hc] at h; cases h
    | true =>
      rw [hc] at h
      simp only [cond_true] at h
      simp only [Bool.and_eq_true, decide_eq_true_eq] at hc
      obtain ⟨n, h1, h⟩ := bind_some' h
      obtain ⟨v, g1, g2⟩ := run_part h
      refine ⟨v, g1, fun {ρ w a} hi hx hy => ?_⟩
      generalize he : a.eval xo = x' at *
      generalize he2 : a.eval io = i' at *
      cases hx with
      | agg hcs =>
        cases hy
        obtain ⟨v', g2, g3⟩ := g2 (w := w) hcs
        refine Done.value (w' := w) ?_ (Next.refl hi) g3
        simp only [execOp, ho, he, he2, Instr.index, Sem.run_bind, run_underlying hu, Result.andThen_ok, asIntOf, Sem.run_pure]
        rw [if_pos hc]
        simp only [Sem.run_bind, calm_run h1, Result.andThen_ok, g2, Sem.run_pure]
  · cases h

def extractE {R : Type} (x : Value) (i : Nat) (k : Value → Option R) : Option R :=
  match x with
  | .tuple ⟨cs⟩ => (cs[i]?).bind k
  | _ => none

theorem extractE_sound {R : Type} {P : Program} {lo : Nat} {H : AH} {x : Value} {xo : Operand} {i : Nat} {k : Value → Option R} {r : R} (h : extractE x i k = some r)
    {o : Oper} (ho : o.op = .extract xo i) : ∃ v, k v = some r ∧ ∀ {ρ : Map} {w : World} {a : Act}, Inv ρ H w → VRel ρ x (a.eval xo) → Done P lo o a ρ H w v H := by
  unfold extractE at h
  split at h
  · rename_i cs
    obtain ⟨v, h1, h⟩ := bind_some' h
    refine ⟨v, h, fun {ρ w a} hi hx => ?_⟩
    generalize he : a.eval xo = x' at *
    cases hx with
    | tuple hc =>
      obtain ⟨v', h3, h4⟩ := hc.get i h1
      refine Done.value (w' := w) ?_ (Next.refl hi) h4
      simp [execOp, ho, he, Instr.extract, h3]
  · cases h

def makeIfaceE {R : Type} (P : Program) (t : TypeId) (x : Value) (k : Value → Option R) : Option R :=
  match P.underlying t with
  | some (.interface _) => none
  | some _ => k (.iface t x)
  | none => none

theorem makeIfaceE_sound {R : Type} {P : Program} {lo : Nat} {H : AH} {t : TypeId} {x : Value} {xo : Operand} {k : Value → Option R} {r : R} (h : makeIfaceE P t x k = some r)
    {o : Oper} (ho : o.op = .makeInterface t xo) : ∃ v, k v = some r ∧ ∀ {ρ : Map} {w : World} {a : Act}, Inv ρ H w → VRel ρ x (a.eval xo) → Done P lo o a ρ H w v H := by
  unfold makeIfaceE at h
  split at h
  · cases h
  · rename_i d hne hu
    refine ⟨_, h, fun {ρ w a} hi hx => Done.value (w' := w) (v' := .iface t (a.eval xo)) ?_ (Next.refl hi) (.iface t hx)⟩
    have : (Instr.makeInterface t (a.eval xo)).run P w = .ok (.iface t (a.eval xo)) w := by
      unfold Instr.makeInterface
      rw [Sem.run_bind, run_underlying hu]
      cases d <;> first | rfl | exact absurd rfl (hne _)
    simp [execOp, ho, this]
  · cases h

def assertE {R : Type} (P : Program) (x : Value) (t : TypeId) (commaOk : Bool) (k : Value → Option R) : Option R :=
  match P.underlying t, x with
  | some (.interface _), _ => none
  | some _, .iface u v =>
    bif Nat.beq u t then k (bif commaOk then .tuple #[v, .bool true] else v)
    else bif commaOk then (calm P (zeroValue t)).bind fun z => bif flat z then k (.tuple #[z, .bool false]) else none
    else none
  | _, _ => none

theorem assertE_sound {R : Type} {P : Program} {lo : Nat} {H : AH} {xt t : TypeId} {x : Value} {xo : Operand} {c : Bool} {k : Value → Option R} {r : R} (h : assertE P x t c k = some r)
    {o : Oper} (ho : o.op = .typeAssert xo xt t c) : ∃ v, k v = some r ∧ ∀ {ρ : Map} {w : World} {a : Act}, Inv ρ H w → VRel ρ x (a.eval xo) → Done P lo o a ρ H w v H := by
  unfold assertE at h
  split at h
  · cases h
  · rename_i d u v hne hu
    cases hb : Nat.beq u t with
    | true =>
      rw [hb] at h
      have := Nat.eq_of_beq_eq_true hb
      subst this
      refine ⟨_, h, fun {ρ w a} hi hx => ?_⟩
      generalize he : a.eval xo = x' at *
      cases hx with
      | iface _ hv =>
        rename_i v'
        have hrun : (Instr.typeAssert (.iface u v') xt u c).run P w = .ok (if c then .tuple #[v', .bool true] else v') w := by
          unfold Instr.typeAssert
          rw [Sem.run_bind, run_underlying hu]
          cases d <;> first | exact absurd rfl (hne _) | simp
        cases c with
        | true => exact Done.value (w' := w) (by simp [execOp, ho, he, hrun]) (Next.refl hi) (.tuple (.cons hv (.cons (.bool _) .nil)))
        | false => exact Done.value (w' := w) (by simp [execOp, ho, he, hrun]) (Next.refl hi) hv
    | false =>
      rw [hb] at h
      cases c with
      | false => cases h
      | true =>
        simp only [cond_true, cond_false] at h
        obtain ⟨z, h1, h⟩ := bind_some' h
        cases hf : flat z with
        | false => rw [hf] at h; cases h
        | true =>
          rw [hf] at h
          refine ⟨_, h, fun {ρ w a} hi hx => ?_⟩
          generalize he : a.eval xo = x' at *
          cases hx with
          | iface _ hv =>
            rename_i v'
            refine Done.value (w' := w) (v' := .tuple #[z, .bool false]) ?_ (Next.refl hi) (.tuple (.cons (VRel.ofFlat ρ hf) (.cons (.bool _) .nil)))
            have hne' : u ≠ t := fun e => by subst e; simp at hb
            have hrun : (Instr.typeAssert (.iface u v') xt t true).run P w = .ok (.tuple #[z, .bool false]) w := by
              unfold Instr.typeAssert
              rw [Sem.run_bind, run_underlying hu]
              cases d <;> first | exact absurd rfl (hne _) | simp [hne', calm_run h1]
            simp [execOp, ho, he, hrun]
  · cases h

def nilCheckE {R : Type} (x : Value) (k : Value → Option R) : Option R :=
  match x with
  | .pointer (some _) => k x
  | .func (.func _) _ _ => k x
  | _ => none

theorem nilCheckE_sound {R : Type} {P : Program} {lo : Nat} {H : AH} {x : Value} {xo : Operand} {k : Value → Option R} {r : R} (h : nilCheckE x k = some r)
    {o : Oper} (ho : o.op = .nilCheck xo) : ∃ v, k v = some r ∧ ∀ {ρ : Map} {w : World} {a : Act}, Inv ρ H w → VRel ρ x (a.eval xo) → Done P lo o a ρ H w v H := by
  unfold nilCheckE at h
  split at h
  · refine ⟨_, h, fun {ρ w a} hi hx => ?_⟩
    generalize he : a.eval xo = x' at *
    cases hx with
    | ptr hk => exact Done.value (w' := w) (by simp [execOp, ho, he]) (Next.refl hi) (.ptr hk)
  · refine ⟨_, h, fun {ρ w a} hi hx => ?_⟩
    generalize he : a.eval xo = x' at *
    cases hx with
    | func _ ha hb => exact Done.value (w' := w) (by simp [execOp, ho, he]) (Next.refl hi) (.func _ ha hb)
  · cases h

end Go.Vm
