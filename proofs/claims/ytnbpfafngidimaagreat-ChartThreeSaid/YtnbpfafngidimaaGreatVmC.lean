/- Loads and stores of the abstract memory are right; no conditions. -/
import Derived.Test.YtnbpfafngidimaaGreatVmB
namespace Go.Vm
set_option linter.unusedVariables false
set_option linter.unusedSimpArgs false

/-! ### Sem trees that look at nothing but the program -/
def calm {α : Type} (P : Program) : Sem α → Option α
  | .pure a => some a
  | .program k => calm P (k P)
  | .mark _ k => calm P k
  | _ => none

theorem calm_run {α : Type} {P : Program} : ∀ {s : Sem α} {x : α}, calm P s = some x → ∀ w, s.run P w = .ok x w
  | .pure a, x, h, w => by simp [calm] at h; subst h; rfl
  | .program k, x, h, w => calm_run (s := k P) h w
  | .mark m k, x, h, w => calm_run (s := k) h w
  | .load .., _, h, _ | .store .., _, h, _ | .new .., _, h, _ | .shape .., _, h, _ | .freeze .., _, h, _ | .frozen .., _, h, _
  | .getObj .., _, h, _ | .setObj .., _, h, _ | .choose .., _, h, _ | .sys .., _, h, _ | .halt .., _, h, _ => by simp [calm] at h

/-! ### Numbers brought to their literal -/
def forceN {R : Type} (n : Nat) (k : Nat → R) : R := match n with | 0 => k 0 | m + 1 => k (m + 1)
theorem forceN_eq {R : Type} (n : Nat) (k : Nat → R) : forceN n k = k n := by cases n <;> rfl
def forceI {R : Type} (n : Int) (k : Int → R) : R := match n with | .ofNat a => forceN a fun a => k (.ofNat a) | .negSucc a => forceN a fun a => k (.negSucc a)
theorem forceI_eq {R : Type} (n : Int) (k : Int → R) : forceI n k = k n := by cases n <;> simp [forceI, forceN_eq]
/-- how a whole number is brought to its literal: a real way, or a variable -/
abbrev Fi := ∀ R : Type, Int → (Int → Option R) → Option R
def Fi.Fair (fi : Fi) : Prop := ∀ (R : Type) (n : Int) (k : Int → Option R), fi R n k = k n
def fiReal : Fi := fun R n k => forceI n k
theorem fiReal_fair : Fi.Fair fiReal := fun R n k => forceI_eq n k
def forceB {R : Type} (b : Bool) (k : Bool → R) : R := match b with | true => k true | false => k false
theorem forceB_eq {R : Type} (b : Bool) (k : Bool → R) : forceB b k = k b := by cases b <;> rfl
def bindF {R : Type} (o : Option Nat) (k : Nat → Option R) : Option R := o.bind fun n => forceN n k
theorem bindF_some {R : Type} {o : Option Nat} {k : Nat → Option R} {r : R} (h : bindF o k = some r) : ∃ n, o = some n ∧ k n = some r := by
  cases o with
  | none => simp [bindF] at h
  | some n => exact ⟨n, rfl, by simpa [bindF, forceN_eq] using h⟩
theorem bind_some' {α R : Type} {o : Option α} {k : α → Option R} {r : R} (h : o.bind k = some r) : ∃ n, o = some n ∧ k n = some r := by
  cases o with
  | none => simp at h
  | some n => exact ⟨n, rfl, by simpa using h⟩

/-! ### Operands -/
def opd (e : Env) : Operand → Option Value
  | .tmp t => getE t e
  | .const v => bif flat v then some v else none
  | .global _ => none
  | .func f => some (.func (.func f) #[] #[])

theorem opd_rel {ρ : Map} {e : Env} {a : Act} (he : EnvRel ρ e a.tmps) {x : Operand} {v : Value} (h : opd e x = some v) : VRel ρ v (a.eval x) := by
  cases x with
  | tmp t =>
    obtain ⟨v', h1, h2⟩ := he t v h
    simp only [Act.eval, Array.getD_eq_getD_getElem?, h1, Option.getD_some]
    exact h2
  | const u =>
    simp only [opd] at h
    cases hf : flat u with
    | true => simp [hf] at h; subst h; exact VRel.ofFlat ρ hf
    | false => simp [hf] at h
  | global g => simp [opd] at h
  | func f => simp [opd] at h; subst h; exact .func _ .nil .nil

/-- What one operation does, told of the abstract and of the concrete state. -/
def Done (P : Program) (lo : Nat) (o : Oper) (a : Act) (ρ : Map) (H : AH) (w : World) (v : Value) (H' : AH) : Prop :=
  ∃ ρ' w' v' n, (execOp a.eval o).run P w = .ok n w' ∧ (n = .value v' ∨ (n = .skip ∧ v' = undef)) ∧ Next lo ρ H w ρ' H' w' ∧ VRel ρ' v v'

theorem Done.calm {P : Program} {lo : Nat} {o : Oper} {a : Act} {ρ : Map} {H : AH} {w : World} {v v' : Value} (hi : Inv ρ H w)
    (hr : (execOp a.eval o).run P w = .ok (.value v') w) (hv : VRel ρ v v') : Done P lo o a ρ H w v H :=
  ⟨ρ, w, v', _, hr, .inl rfl, Next.refl hi, hv⟩

/-! ### Lists of related values -/
theorem VRels.length {ρ : Map} : ∀ {v v' : List Value}, VRels ρ v v' → v'.length = v.length
  | _, _, .nil => rfl
  | _, _, .cons _ hs => by simp [hs.length]
theorem VRels.append {ρ : Map} : ∀ {a a' b b' : List Value}, VRels ρ a a' → VRels ρ b b' → VRels ρ (a ++ b) (a' ++ b')
  | _, _, _, _, .nil, h => h
  | _, _, _, _, .cons h hs, g => .cons h (hs.append g)
theorem VRels.drop {ρ : Map} : ∀ {a a' : List Value} (n : Nat), VRels ρ a a' → VRels ρ (a.drop n) (a'.drop n)
  | _, _, 0, h => h
  | _, _, n + 1, .nil => .nil
  | _, _, n + 1, .cons _ hs => by simpa using hs.drop n
theorem VRels.take {ρ : Map} : ∀ {a a' : List Value} (n : Nat), VRels ρ a a' → VRels ρ (a.take n) (a'.take n)
  | _, _, 0, _ => .nil
  | _, _, n + 1, .nil => .nil
  | _, _, n + 1, .cons h hs => by simpa using .cons h (hs.take n)
theorem VRels.get {ρ : Map} : ∀ {a a' : List Value} (n : Nat) {v : Value}, VRels ρ a a' → a[n]? = some v → ∃ v', a'[n]? = some v' ∧ VRel ρ v v'
  | _, _, _, _, .nil, h => by simp at h
  | _, _, 0, _, .cons h _, e => by simp at e; subst e; exact ⟨_, rfl, h⟩
  | _, _, n + 1, _, .cons _ hs, e => by simpa using hs.get n (by simpa using e)

theorem VRel.oneCell {ρ : Map} {v v' : Value} (h : VRel ρ v v') (h1 : v.oneCell' = true) : v'.oneCell' = true := by
  cases h <;> simp_all [Value.oneCell']

/-- The cells of a value. -/
theorem VRel.cells {ρ : Map} {v v' : Value} (h : VRel ρ v v') : VRels ρ v.cells.toList v'.cells.toList := by
  cases h with
  | agg h => simpa [Value.cells] using h
  | bool b => exact .cons (.bool b) .nil
  | int k n => exact .cons (.int k n) .nil
  | float k n => exact .cons (.float k n) .nil
  | complex k x y => exact .cons (.complex k x y) .nil
  | string s => exact .cons (.string s) .nil
  | nilPtr => exact .cons .nilPtr .nil
  | ptr h => exact .cons (.ptr h) .nil
  | nilSlice n c => exact .cons (.nilSlice n c) .nil
  | slice h => exact .cons (.slice h) .nil
  | nilMap => exact .cons .nilMap .nil
  | map h => exact .cons (.map h) .nil
  | nilFunc => exact .cons .nilFunc .nil
  | func f ha hb => exact .cons (.func f ha hb) .nil
  | nilIface => exact .cons .nilIface .nil
  | iface t h => exact .cons (.iface t h) .nil
  | tuple h => exact .cons (.tuple h) .nil

/-! ### Loads and stores -/
def isRowB (P : Program) (t : TypeId) : Bool :=
  match P.underlying t with
  | some (.struct _) => true
  | some (.array _ _) => true
  | _ => false

def loadE {R : Type} (P : Program) (t : TypeId) (cs : List Value) (off : Nat) (k : Value → Option R) : Option R :=
  bif isRowB P t then
    bif Nat.ble (off + P.cellsOf t) cs.length && !Nat.beq (P.cellsOf t) 0 then k (.agg ⟨(cs.drop off).take (P.cellsOf t)⟩) else none
  else bif (P.underlying t).isSome then (cs[off]?).bind k else none

theorem info_of_cells {P : Program} {t : TypeId} (h : P.cellsOf t ≠ 0) : (P.info? t).map (·.size) = some (P.cellsOf t) := by
  unfold Program.cellsOf at *
  cases hi : P.info? t with
  | none => simp [hi] at h
  | some i => simp

theorem run_loadVar_plain {P : Program} {t : TypeId} {d : TypeDesc} {ad : Addr} {v : Value} {w : World} (hu : P.underlying t = some d) (hd : d.isRow = false)
    (hc : w.cell? ad = some v) : (loadVar t ad).run P w = .ok v w := by
  have : (isAgg t).run P w = .ok false w := by
    unfold isAgg
    rw [Sem.run_bind, run_underlying hu w]
    cases d <;> simp_all
  simp [loadVar, this, hc]

theorem loadE_sound {R : Type} {P : Program} {t : TypeId} {cs : List Value} {off : Nat} {k : Value → Option R} {r : R} (h : loadE P t cs off k = some r) :
    ∃ v, k v = some r ∧ ∀ {ρ : Map} {s : Spot} {sz : Nat} {w : World}, OHas ρ (.cells cs sz) s w → ∃ v', (loadVar t ⟨s.b, s.d + off, none⟩).run P w = .ok v' w ∧ VRel ρ v v' := by
  have hcell : ∀ {arr : Array Value} {ty : TypeId} {cs' : List Value} {s : Spot} {w : World}, w.heap[s.b]? = some (.cells arr ty (0, 0)) → (∀ (i : Nat) v, cs'[i]? = some v → arr[s.d + i]? = some v) →
      ∀ (i : Nat) v, cs'[i]? = some v → w.cell? ⟨s.b, s.d + i, none⟩ = some v := fun hb hc i v hv => by
    simp [World.cell?, hb, hc i v hv]
  unfold loadE at h
  cases hrow : isRowB P t with
  | true =>
    simp only [hrow, cond_true] at h
    cases hlen : Nat.ble (off + P.cellsOf t) cs.length && !Nat.beq (P.cellsOf t) 0 with
    | false => simp [hlen] at h
    | true =>
      simp only [hlen, cond_true] at h
      simp only [Bool.and_eq_true, Nat.ble_eq, Bool.not_eq_true'] at hlen
      have hz : P.cellsOf t ≠ 0 := fun e => by have := hlen.2; simp [e] at this
      have hd : ∃ d, P.underlying t = some d ∧ d.isRow = true := by
        unfold isRowB at hrow
        split at hrow
        · exact ⟨_, ‹_›, rfl⟩
        · exact ⟨_, ‹_›, rfl⟩
        · cases hrow
      obtain ⟨d0, hu, hd0⟩ := hd
      refine ⟨_, h, fun {ρ s sz w} ho => ?_⟩
      obtain ⟨arr, ty, cs', hb, hr, hc, _⟩ := ho
      have hl : ((cs'.drop off).take (P.cellsOf t)).length = P.cellsOf t := by
        have := hr.length
        simp
        omega
      refine ⟨.agg ⟨(cs'.drop off).take (P.cellsOf t)⟩, ?_, .agg ((hr.drop off).take _)⟩
      refine run_loadVar_mid w s.b (s.d + off) t _ d0 (fun j v hv => ?_) hu hd0 (by rw [hl]; exact info_of_cells hz)
      rw [Nat.add_assoc]
      refine hcell hb hc (off + j) v ?_
      rw [List.getElem?_take] at hv
      split at hv
      · simpa [List.getElem?_drop] using hv
      · cases hv
  | false =>
    simp only [hrow, cond_false] at h
    cases hu : P.underlying t with
    | none => simp [hu] at h
    | some d0 =>
      simp only [hu, Option.isSome_some, cond_true] at h
      obtain ⟨v, h1, h2⟩ := bind_some' h
      have hd0 : d0.isRow = false := by
        unfold isRowB at hrow
        rw [hu] at hrow
        cases d0 <;> simp_all
      refine ⟨v, h2, fun {ρ s sz w} ho => ?_⟩
      obtain ⟨arr, ty, cs', hb, hr, hc, _⟩ := ho
      obtain ⟨v', h3, h4⟩ := hr.get off h1
      exact ⟨v', run_loadVar_plain hu hd0 (hcell hb hc off v' h3), h4⟩

def splice (cs : List Value) (off : Nat) (vs : List Value) : List Value := cs.take off ++ (vs ++ cs.drop (off + vs.length))

def allOne : List Value → Bool
  | [] => true
  | v :: r => v.oneCell' && allOne r

theorem allOne_rel {ρ : Map} : ∀ {v v' : List Value}, VRels ρ v v' → allOne v = true → ∀ x ∈ v', x.oneCell' = true
  | _, _, .nil, _ => by simp
  | _, _, .cons h hs, hx => by
    simp only [allOne, Bool.and_eq_true] at hx
    intro x hm
    rcases List.mem_cons.1 hm with rfl | hm
    · exact h.oneCell hx.1
    · exact allOne_rel hs hx.2 x hm

theorem VRels.splice {ρ : Map} {cs cs' vs vs' : List Value} (h : VRels ρ cs cs') (g : VRels ρ vs vs') (off : Nat) : VRels ρ (splice cs off vs) (splice cs' off vs') := by
  unfold Vm.splice
  rw [g.length]
  exact (h.take off).append (g.append (h.drop _))

theorem setCells_heap (b : Nat) : ∀ (vs : List Value) (o : Nat) (w : World) (arr : Array Value) (ty : TypeId) (fz : Nat × Nat), w.heap[b]? = some (.cells arr ty fz) →
    (w.setCells b o vs).heap[b]? = some (.cells (vs.zipIdx.foldl (fun a x => a.setIfInBounds (o + x.2) x.1) arr) ty fz) ∧ (∀ b' : Nat, b' ≠ b → (w.setCells b o vs).heap[b']? = w.heap[b']?) ∧
    (w.setCells b o vs).heap.size = w.heap.size ∧ (w.setCells b o vs).os = w.os ∧ (w.setCells b o vs).tape = w.tape ∧ (w.setCells b o vs).output = w.output
  | [], o, w, arr, ty, fz, h => ⟨by simpa [World.setCells] using h, fun _ _ => rfl, rfl, rfl, rfl, rfl⟩
  | v :: r, o, w, arr, ty, fz, h => by
    have h1 : (w.setCell ⟨b, o, none⟩ v).heap[b]? = some (.cells (arr.setIfInBounds o v) ty fz) := by
      simp [World.setCell, Array.getElem?_modify, h]
    obtain ⟨g1, g2, g3, g4, g5, g6⟩ := setCells_heap b r (o + 1) _ _ _ _ h1
    refine ⟨?_, fun b' hb' => ?_, ?_, g4, g5, g6⟩
    · rw [World.setCells, g1]
      congr 2
      rw [List.zipIdx_cons, List.foldl_cons]
      simp only [Nat.add_zero, Nat.zero_add]
      rw [List.zipIdx_succ, List.foldl_map]
      congr 1
      funext a x
      obtain ⟨x1, x2⟩ := x
      simp only
      congr 1
      omega
    · rw [World.setCells, g2 b' hb']
      simp only [World.setCell, Array.getElem?_modify]
      rw [if_neg (by simpa using Ne.symm hb')]
    · rw [World.setCells, g3]; simp

theorem foldl_set_get (vs : List Value) : ∀ (o : Nat) (arr : Array Value) (i : Nat), (vs.zipIdx.foldl (fun a x => a.setIfInBounds (o + x.2) x.1) arr)[i]? =
    if o ≤ i ∧ i < o + vs.length ∧ i < arr.size then vs[i - o]? else arr[i]? := by
  induction vs with
  | nil => intro o arr i; simp; intro h; omega
  | cons v r ih =>
    intro o arr i
    have : (((v :: r).zipIdx).foldl (fun a x => a.setIfInBounds (o + x.2) x.1) arr) = (r.zipIdx.foldl (fun a x => a.setIfInBounds (o + 1 + x.2) x.1) (arr.setIfInBounds o v)) := by
      rw [List.zipIdx_cons, List.foldl_cons]
      simp only [Nat.add_zero, Nat.zero_add]
      rw [List.zipIdx_succ, List.foldl_map]
      congr 1
      funext a x
      obtain ⟨x1, x2⟩ := x
      simp only
      congr 1
      omega
    rw [this, ih]
    simp only [Array.size_setIfInBounds, List.length_cons]
    by_cases h1 : o + 1 ≤ i ∧ i < o + 1 + r.length ∧ i < arr.size
    · rw [if_pos h1, if_pos (by omega)]
      rw [show i - o = (i - (o + 1)) + 1 by omega]
      simp
    · rw [if_neg h1]
      by_cases h2 : i = o
      · subst h2
        by_cases h3 : i < arr.size
        · rw [if_pos (by omega)]
          simp [h3]
        · rw [if_neg (by omega)]
          simp [h3]
      · rw [if_neg (by omega), Array.getElem?_setIfInBounds_ne (Ne.symm h2)]

def storeE {R : Type} (P : Program) (lo : Nat) (H : AH) (t : TypeId) (ad : Addr) (v : Value) (k : AH → Option R) : Option R :=
  match look ad.block H.objs with
  | some (.cells cs sz) =>
    bif Nat.ble lo ad.block && Nat.beq v.cells.toList.length (P.cellsOf t) && !Nat.beq (P.cellsOf t) 0 && Nat.ble (ad.off + v.cells.toList.length) cs.length && allOne v.cells.toList && ad.spot.isNone then
      k (H.put ad.block (.cells (splice cs ad.off v.cells.toList) sz))
    else none
  | _ => none

theorem splice_get {cs vs : List Value} {off i : Nat} (hl : off + vs.length ≤ cs.length) :
    (splice cs off vs)[i]? = if off ≤ i ∧ i < off + vs.length then vs[i - off]? else cs[i]? := by
  have h1 : (cs.take off).length = off := by simp; omega
  unfold splice
  by_cases ha : i < off
  · rw [if_neg (by omega), List.getElem?_append_left (by omega), List.getElem?_take, if_pos ha]
  · rw [List.getElem?_append_right (by omega), h1]
    by_cases hb : i < off + vs.length
    · rw [if_pos (by omega), List.getElem?_append_left (by omega)]
    · rw [if_neg (by omega), List.getElem?_append_right (by omega), List.getElem?_drop]
      congr 1
      omega

theorem splice_length {cs vs : List Value} {off : Nat} (hl : off + vs.length ≤ cs.length) : (splice cs off vs).length = cs.length := by
  simp [splice]; omega

theorem foldl_set_size (vs : List Value) (o : Nat) (arr : Array Value) : (vs.zipIdx.foldl (fun a x => a.setIfInBounds (o + x.2) x.1) arr).size = arr.size := by
  generalize vs.zipIdx = l
  induction l generalizing arr with
  | nil => rfl
  | cons x r ih => rw [List.foldl_cons, ih]; simp

theorem storeE_sound {R : Type} {P : Program} {lo : Nat} {H : AH} {t : TypeId} {ad : Addr} {v : Value} {k : AH → Option R} {r : R} (h : storeE P lo H t ad v k = some r) :
    ∃ H', k H' = some r ∧ ∀ {ρ : Map} {w : World} {ad' : Addr} {v' : Value}, Inv ρ H w → VRel ρ (.pointer (some ad)) (.pointer (some ad')) → VRel ρ v v' →
      ∃ w', (storeVar t ad' v').run P w = .ok () w' ∧ Next lo ρ H w ρ H' w' := by
  unfold storeE at h
  split at h
  · rename_i cs sz hl
    cases hc : (Nat.ble lo ad.block && Nat.beq v.cells.toList.length (P.cellsOf t) && !Nat.beq (P.cellsOf t) 0 && Nat.ble (ad.off + v.cells.toList.length) cs.length && allOne v.cells.toList && ad.spot.isNone) with
    | false => rw [hc] at h; cases h
    | true =>
      rw [hc] at h
      simp only [cond_true] at h
      simp only [Bool.and_eq_true, Nat.ble_eq, Nat.beq_eq, Bool.not_eq_true'] at hc
      obtain ⟨⟨⟨⟨⟨h1, h2⟩, h3⟩, h4⟩, h5⟩, h6⟩ := hc
      have hm := look_mem hl
      refine ⟨_, h, fun {ρ w ad' v'} hi hp hv => ?_⟩
      cases hp with
      | ptr hk =>
        rename_i kb o s
        simp only at *
        obtain ⟨s2, e1, e2⟩ := hi.rel.obj kb _ hm
        rw [hk] at e1
        obtain rfl : s = s2 := by simpa using e1
        obtain ⟨arr, ty, cs', hb, hr, hcc, hext⟩ := e2
        have hcl := hv.cells
        have hlen := hcl.length
        have hcslen := hr.length
        have hone := allOne_rel hcl h5
        have hcell : ∀ i, i < cs.length → ∃ u, arr[s.d + i]? = some u := fun i hi => by
          have hlt : i < cs'.length := by omega
          exact ⟨cs'[i], hcc i _ (by simp [hlt])⟩
        have hz : P.cellsOf t ≠ 0 := fun e => by simp [e] at h3
        have hst := run_storeCells_cells (P := P) s.b (s.d + o) v'.cells.toList 0 w (fun j hj => by
            obtain ⟨u, hu⟩ := hcell (o + j) (by omega)
            rw [show s.d + o + 0 + j = s.d + (o + j) by omega]
            simp [World.cell?, hb, hu]) (fun j hj => by simp [World.frozen?, hb]) hone
        simp only [Nat.add_zero] at hst
        obtain ⟨g1, g2, g3, g4, g5, g6⟩ := setCells_heap s.b v'.cells.toList (s.d + o) w arr ty (0, 0) hb
        refine ⟨w.setCells s.b (s.d + o) v'.cells.toList, ?_, Next.write hi hm h1 hk _ g3 g4 g5 g6 g2 ⟨_, ty, splice cs' o v'.cells.toList, g1, ?_, fun i u hu => ?_, ?_⟩⟩
        · have hi' := info_of_cells hz
          cases hq : P.info? t with
          | none => simp [hq] at hi'
          | some inf =>
            have hs : v'.cells.size = inf.size := by
              simp [hq] at hi'
              have : v'.cells.toList.length = v'.cells.size := by simp
              omega
            simp [storeVar, sizeOf, typeInfo, hq, hs, hst]
        · exact hr.splice hcl o
        · rw [splice_get (by omega)] at hu
          rw [foldl_set_get]
          split at hu
          · rename_i hin
            have : s.d + i < arr.size := by
              obtain ⟨u', hu'⟩ := hcell i (by omega)
              exact (Array.getElem?_eq_some_iff.1 hu').1
            rw [if_pos (by omega), show s.d + i - (s.d + o) = i - o by omega]
            exact hu
          · rename_i hout
            rw [if_neg (by omega)]
            exact hcc i u hu
        · rw [splice_length (by omega), foldl_set_size]
          exact hext
  · cases h

end Go.Vm
