/- Loads and stores of the abstract memory are right; no conditions. Operations on numbers, and built structs, are right; no conditions. -/
import Derived.Test.YtnbpfafngidimaaGreatVmA
import Derived.Test.YtnbpfafngidimaaGreatVmFF
namespace Go.Vm
set_option linter.unusedVariables false
set_option linter.unusedSimpArgs false

/-! ### Sem trees that look at nothing but the program -/
def calm {α : Type} (P : Program) : Sem α → Option α
  | .pure a => some a
  | .program k => calm P (k P)
  | .mark _ k => calm P k
  | _ => none

theorem calm_run {α : Type} {P : Program} : ∀ {s : Sem α} {x : α}, calm P s = some x → ∀ w, s.run P w = .ok x w
  | .pure a, x, h, w => by simp [calm] at h; subst h; rfl
  | .program k, x, h, w => calm_run (s := k P) h w
  | .mark m k, x, h, w => calm_run (s := k) h w
  | .load .., _, h, _ | .store .., _, h, _ | .new .., _, h, _ | .shape .., _, h, _ | .freeze .., _, h, _ | .frozen .., _, h, _
  | .getObj .., _, h, _ | .setObj .., _, h, _ | .choose .., _, h, _ | .sys .., _, h, _ | .halt .., _, h, _ => by simp [calm] at h

/-! ### Numbers brought to their literal -/
def forceI {R : Type} (n : Int) (k : Int → R) : R := match n with | .ofNat a => forceN a fun a => k (.ofNat a) | .negSucc a => forceN a fun a => k (.negSucc a)
theorem forceI_eq {R : Type} (n : Int) (k : Int → R) : forceI n k = k n := by cases n <;> simp [forceI, forceN_eq]
/-- how a whole number is brought to its literal: a real way, or a variable -/
abbrev Fi := ∀ R : Type, Int → (Int → Option R) → Option R
def Fi.Fair (fi : Fi) : Prop := ∀ (R : Type) (n : Int) (k : Int → Option R), fi R n k = k n
def fiReal : Fi := fun R n k => forceI n k
theorem fiReal_fair : Fi.Fair fiReal := fun R n k => forceI_eq n k
def forceB {R : Type} (b : Bool) (k : Bool → R) : R := match b with | true => k true | false => k false
theorem forceB_eq {R : Type} (b : Bool) (k : Bool → R) : forceB b k = k b := by cases b <;> rfl
def bindF {R : Type} (o : Option Nat) (k : Nat → Option R) : Option R := o.bind fun n => forceN n k
theorem bindF_some {R : Type} {o : Option Nat} {k : Nat → Option R} {r : R} (h : bindF o k = some r) : ∃ n, o = some n ∧ k n = some r := by
  cases o with
  | none => simp [bindF] at h
  | some n => exact ⟨n, rfl, by simpa [bindF, forceN_eq] using h⟩
theorem bind_some' {α R : Type} {o : Option α} {k : α → Option R} {r : R} (h : o.bind k = some r) : ∃ n, o = some n ∧ k n = some r := by
  cases o with
  | none => simp at h
  | some n => exact ⟨n, rfl, by simpa using h⟩

/-! ### Operands -/
def opd (e : Env) : Operand → Option Value
  | .tmp t => getE t e
  | .const v => bif flat v then some v else none
  | .global _ => none
  | .func f => some (.func (.func f) #[] #[])

theorem opd_rel {ρ : Map} {e : Env} {a : Act} (he : EnvRel ρ e a.tmps) {x : Operand} {v : Value} (h : opd e x = some v) : VRel ρ v (a.eval x) := by
  cases x with
  | tmp t =>
    obtain ⟨v', h1, h2⟩ := he t v h
    simp only [Act.eval, Array.getD_eq_getD_getElem?, h1, Option.getD_some]
    exact h2
  | const u =>
    simp only [opd] at h
    cases hf : flat u with
    | true => simp [hf] at h; subst h; exact VRel.ofFlat ρ hf
    | false => simp [hf] at h
  | global g => simp [opd] at h
  | func f => simp [opd] at h; subst h; exact .func _ .nil .nil

/-- What one operation does, told of the abstract and of the concrete state. -/
def Done (P : Program) (lo : Nat) (o : Oper) (a : Act) (ρ : Map) (H : AH) (w : World) (v : Value) (H' : AH) : Prop :=
  ∃ ρ' w' v' n, (execOp a.eval o).run P w = .ok n w' ∧ (n = .value v' ∨ (n = .skip ∧ v' = undef)) ∧ Next lo ρ H w ρ' H' w' ∧ VRel ρ' v v'

theorem Done.calm {P : Program} {lo : Nat} {o : Oper} {a : Act} {ρ : Map} {H : AH} {w : World} {v v' : Value} (hi : Inv ρ H w)
    (hr : (execOp a.eval o).run P w = .ok (.value v') w) (hv : VRel ρ v v') : Done P lo o a ρ H w v H :=
  ⟨ρ, w, v', _, hr, .inl rfl, Next.refl hi, hv⟩

/-! ### Lists of related values -/
theorem VRels.length {ρ : Map} : ∀ {v v' : List Value}, VRels ρ v v' → v'.length = v.length
  | _, _, .nil => rfl
  | _, _, .cons _ hs => by simp [hs.length]
theorem VRels.append {ρ : Map} : ∀ {a a' b b' : List Value}, VRels ρ a a' → VRels ρ b b' → VRels ρ (a ++ b) (a' ++ b')
  | _, _, _, _, .nil, h => h
  | _, _, _, _, .cons h hs, g => .cons h (hs.append g)
theorem VRels.drop {ρ : Map} : ∀ {a a' : List Value} (n : Nat), VRels ρ a a' → VRels ρ (a.drop n) (a'.drop n)
  | _, _, 0, h => h
  | _, _, n + 1, .nil => .nil
  | _, _, n + 1, .cons _ hs => by simpa using hs.drop n
theorem VRels.take {ρ : Map} : ∀ {a a' : List Value} (n : Nat), VRels ρ a a' → VRels ρ (a.take n) (a'.take n)
  | _, _, 0, _ => .nil
  | _, _, n + 1, .nil => .nil
  | _, _, n + 1, .cons h hs => by simpa using .cons h (hs.take n)
theorem VRels.get {ρ : Map} : ∀ {a a' : List Value} (n : Nat) {v : Value}, VRels ρ a a' → a[n]? = some v → ∃ v', a'[n]? = some v' ∧ VRel ρ v v'
  | _, _, _, _, .nil, h => by simp at h
  | _, _, 0, _, .cons h _, e => by simp at e; subst e; exact ⟨_, rfl, h⟩
  | _, _, n + 1, _, .cons _ hs, e => by simpa using hs.get n (by simpa using e)

theorem VRel.oneCell {ρ : Map} {v v' : Value} (h : VRel ρ v v') (h1 : v.oneCell' = true) : v'.oneCell' = true := by
  cases h <;> simp_all [Value.oneCell']

/-- The cells of a value. -/
theorem VRel.cells {ρ : Map} {v v' : Value} (h : VRel ρ v v') : VRels ρ v.cells.toList v'.cells.toList := by
  cases h with
  | agg h => simpa [Value.cells] using h
  | bool b => exact .cons (.bool b) .nil
  | int k n => exact .cons (.int k n) .nil
  | float n => exact .cons (.float n) .nil
  | nan n h => exact .cons (.nan n h) .nil
  | complex x y => exact .cons (.complex x y) .nil
  | cnan h g => exact .cons (.cnan h g) .nil
  | string s => exact .cons (.string s) .nil
  | nilPtr => exact .cons .nilPtr .nil
  | ptr h => exact .cons (.ptr h) .nil
  | nilSlice n c => exact .cons (.nilSlice n c) .nil
  | slice h => exact .cons (.slice h) .nil
  | nilMap => exact .cons .nilMap .nil
  | map h => exact .cons (.map h) .nil
  | nilFunc => exact .cons .nilFunc .nil
  | func f ha hb => exact .cons (.func f ha hb) .nil
  | nilIface => exact .cons .nilIface .nil
  | iface t h => exact .cons (.iface t h) .nil
  | tuple h => exact .cons (.tuple h) .nil

/-! ### Loads and stores -/
def isRowB (P : Program) (t : TypeId) : Bool :=
  match P.underlying t with
  | some (.struct _) => true
  | some (.array _ _) => true
  | _ => false

def loadE {R : Type} (P : Program) (t : TypeId) (cs : List Value) (off : Nat) (k : Value → Option R) : Option R :=
  bif isRowB P t then
    bif Nat.ble (off + P.cellsOf t) cs.length && !Nat.beq (P.cellsOf t) 0 then k (.agg ⟨(cs.drop off).take (P.cellsOf t)⟩) else none
  else bif (P.underlying t).isSome then (cs[off]?).bind k else none

theorem info_of_cells {P : Program} {t : TypeId} (h : P.cellsOf t ≠ 0) : (P.info? t).map (·.size) = some (P.cellsOf t) := by
  unfold Program.cellsOf at *
  cases hi : P.info? t with
  | none => simp [hi] at h
  | some i => simp

theorem run_loadVar_plain {P : Program} {t : TypeId} {d : TypeDesc} {ad : Addr} {v : Value} {w : World} (hu : P.underlying t = some d) (hd : d.isRow = false)
    (hc : w.cell? ad = some v) : (loadVar t ad).run P w = .ok v w := by
  have : (isAgg t).run P w = .ok false w := by
    unfold isAgg
    rw [Sem.run_bind, run_underlying hu w]
    cases d <;> simp_all
  simp [loadVar, this, hc]

theorem loadE_sound {R : Type} {P : Program} {t : TypeId} {cs : List Value} {off : Nat} {k : Value → Option R} {r : R} (h : loadE P t cs off k = some r) :
    ∃ v, k v = some r ∧ ∀ {ρ : Map} {s : Spot} {sz : Nat} {w : World}, OHas ρ (.cells cs sz) s w → ∃ v', (loadVar t ⟨s.b, s.d + off, none⟩).run P w = .ok v' w ∧ VRel ρ v v' := by
  have hcell : ∀ {arr : Array Value} {ty : TypeId} {cs' : List Value} {s : Spot} {w : World}, ∀ {n : Nat}, Lies w s.b arr ty s.d n → (∀ (i : Nat) v, cs'[i]? = some v → arr[s.d + i]? = some v) →
      ∀ (i : Nat) v, cs'[i]? = some v → w.cell? ⟨s.b, s.d + i, none⟩ = some v := fun hb hc i v hv => by
    obtain ⟨⟨fr, hb⟩, _⟩ := hb
    simp [World.cell?, hb, hc i v hv]
  unfold loadE at h
  cases hrow : isRowB P t with
  | true =>
    simp only [hrow, cond_true] at h
    cases hlen : Nat.ble (off + P.cellsOf t) cs.length && !Nat.beq (P.cellsOf t) 0 with
    | false => simp [hlen] at h
    | true =>
      simp only [hlen, cond_true] at h
      simp only [Bool.and_eq_true, Nat.ble_eq, Bool.not_eq_true'] at hlen
      have hz : P.cellsOf t ≠ 0 := fun e => by have := hlen.2; simp [e] at this
      have hd : ∃ d, P.underlying t = some d ∧ d.isRow = true := by
        unfold isRowB at hrow
        split at hrow
        · exact ⟨_, ‹_›, rfl⟩
        · exact ⟨_, ‹_›, rfl⟩
        · cases hrow
      obtain ⟨d0, hu, hd0⟩ := hd
      refine ⟨_, h, fun {ρ s sz w} ho => ?_⟩
      obtain ⟨arr, ty, cs', hb, hr, hc, _⟩ := ho
      have hl : ((cs'.drop off).take (P.cellsOf t)).length = P.cellsOf t := by
        have := hr.length
        simp
        omega
      refine ⟨.agg ⟨(cs'.drop off).take (P.cellsOf t)⟩, ?_, .agg ((hr.drop off).take _)⟩
      refine run_loadVar_mid w s.b (s.d + off) t _ d0 (fun j v hv => ?_) hu hd0 (by rw [hl]; exact info_of_cells hz)
      rw [Nat.add_assoc]
      refine hcell hb hc (off + j) v ?_
      rw [List.getElem?_take] at hv
      split at hv
      · simpa [List.getElem?_drop] using hv
      · cases hv
  | false =>
    simp only [hrow, cond_false] at h
    cases hu : P.underlying t with
    | none => simp [hu] at h
    | some d0 =>
      simp only [hu, Option.isSome_some, cond_true] at h
      obtain ⟨v, h1, h2⟩ := bind_some' h
      have hd0 : d0.isRow = false := by
        unfold isRowB at hrow
        rw [hu] at hrow
        cases d0 <;> simp_all
      refine ⟨v, h2, fun {ρ s sz w} ho => ?_⟩
      obtain ⟨arr, ty, cs', hb, hr, hc, _⟩ := ho
      obtain ⟨v', h3, h4⟩ := hr.get off h1
      exact ⟨v', run_loadVar_plain hu hd0 (hcell hb hc off v' h3), h4⟩

def splice (cs : List Value) (off : Nat) (vs : List Value) : List Value := cs.take off ++ (vs ++ cs.drop (off + vs.length))

def allOne : List Value → Bool
  | [] => true
  | v :: r => v.oneCell' && allOne r

theorem allOne_rel {ρ : Map} : ∀ {v v' : List Value}, VRels ρ v v' → allOne v = true → ∀ x ∈ v', x.oneCell' = true
  | _, _, .nil, _ => by simp
  | _, _, .cons h hs, hx => by
    simp only [allOne, Bool.and_eq_true] at hx
    intro x hm
    rcases List.mem_cons.1 hm with rfl | hm
    · exact h.oneCell hx.1
    · exact allOne_rel hs hx.2 x hm

theorem VRels.splice {ρ : Map} {cs cs' vs vs' : List Value} (h : VRels ρ cs cs') (g : VRels ρ vs vs') (off : Nat) : VRels ρ (splice cs off vs) (splice cs' off vs') := by
  unfold Vm.splice
  rw [g.length]
  exact (h.take off).append (g.append (h.drop _))

theorem setCells_heap (b : Nat) : ∀ (vs : List Value) (o : Nat) (w : World) (arr : Array Value) (ty : TypeId) (fz : Nat × Nat), w.heap[b]? = some (.cells arr ty fz) →
    (w.setCells b o vs).heap[b]? = some (.cells (vs.zipIdx.foldl (fun a x => a.setIfInBounds (o + x.2) x.1) arr) ty fz) ∧ (∀ b' : Nat, b' ≠ b → (w.setCells b o vs).heap[b']? = w.heap[b']?) ∧
    (w.setCells b o vs).heap.size = w.heap.size ∧ (w.setCells b o vs).os = w.os ∧ (w.setCells b o vs).tape = w.tape ∧ (w.setCells b o vs).output = w.output
  | [], o, w, arr, ty, fz, h => ⟨by simpa [World.setCells] using h, fun _ _ => rfl, rfl, rfl, rfl, rfl⟩
  | v :: r, o, w, arr, ty, fz, h => by
    have h1 : (w.setCell ⟨b, o, none⟩ v).heap[b]? = some (.cells (arr.setIfInBounds o v) ty fz) := by
      simp [World.setCell, Array.getElem?_modify, h]
    obtain ⟨g1, g2, g3, g4, g5, g6⟩ := setCells_heap b r (o + 1) _ _ _ _ h1
    refine ⟨?_, fun b' hb' => ?_, ?_, g4, g5, g6⟩
    · rw [World.setCells, g1]
      congr 2
      rw [List.zipIdx_cons, List.foldl_cons]
      simp only [Nat.add_zero, Nat.zero_add]
      rw [List.zipIdx_succ, List.foldl_map]
      congr 1
      funext a x
      obtain ⟨x1, x2⟩ := x
      simp only
      congr 1
      omega
    · rw [World.setCells, g2 b' hb']
      simp only [World.setCell, Array.getElem?_modify]
      rw [if_neg (by simpa using Ne.symm hb')]
    · rw [World.setCells, g3]; simp

theorem foldl_set_get (vs : List Value) : ∀ (o : Nat) (arr : Array Value) (i : Nat), (vs.zipIdx.foldl (fun a x => a.setIfInBounds (o + x.2) x.1) arr)[i]? =
    if o ≤ i ∧ i < o + vs.length ∧ i < arr.size then vs[i - o]? else arr[i]? := by
  induction vs with
  | nil => intro o arr i; simp; intro h; omega
  | cons v r ih =>
    intro o arr i
    have : (((v :: r).zipIdx).foldl (fun a x => a.setIfInBounds (o + x.2) x.1) arr) = (r.zipIdx.foldl (fun a x => a.setIfInBounds (o + 1 + x.2) x.1) (arr.setIfInBounds o v)) := by
      rw [List.zipIdx_cons, List.foldl_cons]
      simp only [Nat.add_zero, Nat.zero_add]
      rw [List.zipIdx_succ, List.foldl_map]
      congr 1
      funext a x
      obtain ⟨x1, x2⟩ := x
      simp only
      congr 1
      omega
    rw [this, ih]
    simp only [Array.size_setIfInBounds, List.length_cons]
    by_cases h1 : o + 1 ≤ i ∧ i < o + 1 + r.length ∧ i < arr.size
    · rw [if_pos h1, if_pos (by omega)]
      rw [show i - o = (i - (o + 1)) + 1 by omega]
      simp
    · rw [if_neg h1]
      by_cases h2 : i = o
      · subst h2
        by_cases h3 : i < arr.size
        · rw [if_pos (by omega)]
          simp [h3]
        · rw [if_neg (by omega)]
          simp [h3]
      · rw [if_neg (by omega), Array.getElem?_setIfInBounds_ne (Ne.symm h2)]

def storeE {R : Type} (P : Program) (lo : Nat) (H : AH) (t : TypeId) (ad : Addr) (v : Value) (k : AH → Option R) : Option R :=
  match look ad.block H.objs with
  | some (.cells cs sz) =>
    bif Nat.ble lo ad.block && Nat.beq v.cells.toList.length (P.cellsOf t) && !Nat.beq (P.cellsOf t) 0 && Nat.ble (ad.off + v.cells.toList.length) cs.length && allOne v.cells.toList && ad.spot.isNone then
      k (H.put ad.block (.cells (splice cs ad.off v.cells.toList) sz))
    else none
  | _ => none

theorem splice_get {cs vs : List Value} {off i : Nat} (hl : off + vs.length ≤ cs.length) :
    (splice cs off vs)[i]? = if off ≤ i ∧ i < off + vs.length then vs[i - off]? else cs[i]? := by
  have h1 : (cs.take off).length = off := by simp; omega
  unfold splice
  by_cases ha : i < off
  · rw [if_neg (by omega), List.getElem?_append_left (by omega), List.getElem?_take, if_pos ha]
  · rw [List.getElem?_append_right (by omega), h1]
    by_cases hb : i < off + vs.length
    · rw [if_pos (by omega), List.getElem?_append_left (by omega)]
    · rw [if_neg (by omega), List.getElem?_append_right (by omega), List.getElem?_drop]
      congr 1
      omega

theorem splice_length {cs vs : List Value} {off : Nat} (hl : off + vs.length ≤ cs.length) : (splice cs off vs).length = cs.length := by
  simp [splice]; omega

theorem foldl_set_size (vs : List Value) (o : Nat) (arr : Array Value) : (vs.zipIdx.foldl (fun a x => a.setIfInBounds (o + x.2) x.1) arr).size = arr.size := by
  generalize vs.zipIdx = l
  induction l generalizing arr with
  | nil => rfl
  | cons x r ih => rw [List.foldl_cons, ih]; simp

theorem storeE_sound {R : Type} {P : Program} {lo : Nat} {H : AH} {t : TypeId} {ad : Addr} {v : Value} {k : AH → Option R} {r : R} (h : storeE P lo H t ad v k = some r) :
    ∃ H', k H' = some r ∧ ∀ {ρ : Map} {w : World} {ad' : Addr} {v' : Value}, Inv ρ H w → VRel ρ (.pointer (some ad)) (.pointer (some ad')) → VRel ρ v v' →
      ∃ w', (storeVar t ad' v').run P w = .ok () w' ∧ Next lo ρ H w ρ H' w' := by
  unfold storeE at h
  split at h
  · rename_i cs sz hl
    cases hc : (Nat.ble lo ad.block && Nat.beq v.cells.toList.length (P.cellsOf t) && !Nat.beq (P.cellsOf t) 0 && Nat.ble (ad.off + v.cells.toList.length) cs.length && allOne v.cells.toList && ad.spot.isNone) with
    | false => rw [hc] at h; cases h
    | true =>
      rw [hc] at h
      simp only [cond_true] at h
      simp only [Bool.and_eq_true, Nat.ble_eq, Nat.beq_eq, Bool.not_eq_true'] at hc
      obtain ⟨⟨⟨⟨⟨h1, h2⟩, h3⟩, h4⟩, h5⟩, h6⟩ := hc
      have hm := look_mem hl
      refine ⟨_, h, fun {ρ w ad' v'} hi hp hv => ?_⟩
      cases hp with
      | ptr hk =>
        rename_i kb o s
        simp only at *
        obtain ⟨s2, e1, e2⟩ := hi.rel.obj kb _ hm
        rw [hk] at e1
        obtain rfl : s = s2 := by simpa using e1
        obtain ⟨arr, ty, cs', hlies, hr, hcc, hext, hx0⟩ := e2
        obtain ⟨⟨fr, hb⟩, hz0⟩ := id hlies
        have hcl := hv.cells
        have hlen := hcl.length
        have hcslen := hr.length
        have hone := allOne_rel hcl h5
        have hcell : ∀ i, i < cs.length → ∃ u, arr[s.d + i]? = some u := fun i hi => by
          have hlt : i < cs'.length := by omega
          exact ⟨cs'[i], hcc i _ (by simp [hlt])⟩
        have hz : P.cellsOf t ≠ 0 := fun e => by simp [e] at h3
        have hst := run_storeCells_cells (P := P) s.b (s.d + o) v'.cells.toList 0 w (fun j hj => by
            obtain ⟨u, hu⟩ := hcell (o + j) (by omega)
            rw [show s.d + o + 0 + j = s.d + (o + j) by omega]
            simp [World.cell?, hb, hu]) (fun j hj => by
            rw [show s.d + o + 0 + j = s.d + (o + j) by omega]
            exact hz0 _ (by omega)) hone
        simp only [Nat.add_zero] at hst
        obtain ⟨g1, g2, g3, g4, g5, g6⟩ := setCells_heap s.b v'.cells.toList (s.d + o) w arr ty fr hb
        refine ⟨w.setCells s.b (s.d + o) v'.cells.toList, ?_, Next.write hi hm h1 hk _ g3 g4 g5 g6 g2 ⟨_, ty, splice cs' o v'.cells.toList, hlies.put hb g1 rfl (by rw [splice_length (by omega)]; exact Nat.le_refl _), ?_, fun i u hu => ?_, ?_, hx0⟩⟩
        · have hi' := info_of_cells hz
          cases hq : P.info? t with
          | none => simp [hq] at hi'
          | some inf =>
            have hs : v'.cells.size = inf.size := by
              simp [hq] at hi'
              have : v'.cells.toList.length = v'.cells.size := by simp
              omega
            simp [storeVar, sizeOf, typeInfo, hq, hs, hst]
        · exact hr.splice hcl o
        · rw [splice_get (by omega)] at hu
          rw [foldl_set_get]
          split at hu
          · rename_i hin
            have : s.d + i < arr.size := by
              obtain ⟨u', hu'⟩ := hcell i (by omega)
              exact (Array.getElem?_eq_some_iff.1 hu').1
            rw [if_pos (by omega), show s.d + i - (s.d + o) = i - o by omega]
            exact hu
          · rename_i hout
            rw [if_neg (by omega)]
            exact hcc i u hu
        · rw [splice_length (by omega), foldl_set_size]
          exact hext
  · cases h

end Go.Vm
namespace Go.Vm
set_option linter.unusedVariables false
set_option linter.unusedSimpArgs false

def opds (e : Env) : List Operand → Option (List Value)
  | [] => some []
  | x :: r => (opd e x).bind fun v => (opds e r).bind fun vs => some (v :: vs)

theorem opds_rel {ρ : Map} {e : Env} {a : Act} (he : EnvRel ρ e a.tmps) : ∀ {xs : List Operand} {vs : List Value}, opds e xs = some vs → VRels ρ vs (xs.map a.eval)
  | [], vs, h => by simp [opds] at h; subst h; exact .nil
  | x :: r, vs, h => by
    obtain ⟨v, h1, h⟩ := bind_some' h
    obtain ⟨us, h2, h⟩ := bind_some' h
    cases h
    exact .cons (opd_rel he h1) (opds_rel he h2)

/-! ### Everything flat: the model's own operation -/
def notSelect : Op → Bool
  | .select .. => false
  | _ => true

def calmOp {R : Type} (P : Program) (e : Env) (H : AH) (o : Oper) (k : Value → AH → Option R) : Option R :=
  (opds e o.op.operands.toList).bind fun vs =>
    bif inns 0 vs && notSelect o.op then
      match calm P (execOp (fun x => (opd e x).getD undef) o) with
      | some (.value v) => bif flat v then k v H else none
      | _ => none
    else none

theorem opds_mem {e : Env} : ∀ {xs : List Operand} {vs : List Value}, opds e xs = some vs → ∀ x ∈ xs, ∃ v, opd e x = some v ∧ v ∈ vs
  | [], _, _, x, hx => by simp at hx
  | y :: r, vs, h, x, hx => by
    obtain ⟨v, h1, h⟩ := bind_some' h
    obtain ⟨us, h2, h⟩ := bind_some' h
    cases h
    rcases List.mem_cons.1 hx with rfl | hx
    · exact ⟨v, h1, by simp⟩
    · obtain ⟨u, g1, g2⟩ := opds_mem h2 x hx
      exact ⟨u, g1, by simp [g2]⟩

theorem inns_mem {n : Nat} : ∀ {vs : List Value}, inns n vs = true → ∀ v ∈ vs, inn n v = true
  | [], _, v, hv => by simp at hv
  | u :: r, h, v, hv => by
    simp only [inns, Bool.and_eq_true] at h
    rcases List.mem_cons.1 hv with rfl | hv
    · exact h.1
    · exact inns_mem h.2 v hv

theorem calmOp_sound {R : Type} {P : Program} {lo : Nat} {e : Env} {H : AH} {o : Oper} {k : Value → AH → Option R} {r : R} (h : calmOp P e H o k = some r) :
    ∃ v H', k v H' = some r ∧ ∀ {ρ : Map} {w : World} {a : Act}, Inv ρ H w → lo ≤ H.next → EnvRel ρ e a.tmps → Done P lo o a ρ H w v H' := by
  unfold calmOp at h
  obtain ⟨vs, h1, h⟩ := bind_some' h
  cases hc : (inns 0 vs && notSelect o.op) with
  | false => rw [hc] at h; cases h
  | true =>
    rw [hc] at h
    simp only [cond_true] at h
    simp only [Bool.and_eq_true] at hc
    split at h
    · rename_i v hcalm
      cases hf : flat v with
      | false => rw [hf] at h; cases h
      | true =>
        rw [hf] at h
        simp only [cond_true] at h
        refine ⟨v, H, h, fun {ρ w a} hi _ he => ?_⟩
        have hcong : execOp a.eval o = execOp (fun x => (opd e x).getD undef) o := by
          refine execOp_congr o (fun cs b e => ?_) fun x hx => ?_
          · rw [e] at hc; simp [notSelect] at hc
          · obtain ⟨u, g1, g2⟩ := opds_mem h1 x (by simpa using hx)
            have := (opd_rel he g1).flat_eq (inns_mem hc.1 u g2)
            simp [g1, this]
        exact Done.calm hi (by rw [hcong]; exact calm_run hcalm w) (VRel.ofFlat ρ hf)
    · cases h

/-! ### Numbers -/
def fcmp (op : BinOp) (x y : Nat) : Option Bool :=
  match op with
  | .eql => some (ordW x y == some .eq)
  | .neq => some (ordW x y != some .eq)
  | .lss => some (ordW x y == some .lt)
  | .leq => some (ordW x y == some .lt || ordW x y == some .eq)
  | .gtr => some (ordW x y == some .gt)
  | .geq => some (ordW x y == some .gt || ordW x y == some .eq)
  | _ => none

def icmp (op : BinOp) (x y : Int) : Option Bool :=
  match op with
  | .eql => some (x == y)
  | .neq => some (x != y)
  | .lss => some (decide (x < y))
  | .leq => some (decide (x ≤ y))
  | .gtr => some (decide (x > y))
  | .geq => some (decide (x ≥ y))
  | _ => none

def iarith (op : BinOp) (k : IntKind) (x y : Int) : Option Int :=
  match op with
  | .add => some (k.wrap (x + y))
  | .sub => some (k.wrap (x - y))
  | .mul => some (k.wrap (x * y))
  | .rem => bif y == 0 then none else some (x.tmod y)
  | .quo => bif y == 0 then none else some (k.wrap (x.tdiv y))
  | _ => none

def isArith : BinOp → Bool
  | .add | .sub | .mul | .quo => true
  | _ => false

def isCmp : BinOp → Bool
  | .eql | .neq | .lss | .leq | .gtr | .geq => true
  | _ => false

/-- The quick road: floats, integers of one kind, complex numbers. -/
def binE {R : Type} (fi : Fi) (op : BinOp) (x y : Value) (k : Value → Option R) (other : Option R) : Option R :=
  match x, y with
  | .float .f64 a, .float .f64 b =>
    bif isArith op then bindF (fbF op a b) fun n => k (.float .f64 n)
    else (fcmp op a b).bind fun t => forceB t fun t => k (.bool t)
  | .int ka a, .int kb b =>
    bif decide (ka = kb) && (isArith op || isCmp op || decide (op = .rem)) then
      bif isCmp op then (icmp op a b).bind fun t => forceB t fun t => k (.bool t)
      else (iarith op ka a b).bind fun n => fi R n fun n => k (.int ka n)
    else other
  | .complex .f64 a b, .complex .f64 c d =>
    match op with
    | .add | .sub => bindF (fbF op a c) fun re => bindF (fbF op b d) fun im => k (.complex .f64 re im)
    | .eql => forceB (ordW a c == some .eq) fun s => forceB (ordW b d == some .eq) fun t => k (.bool (s && t))
    | .neq => forceB (ordW a c == some .eq) fun s => forceB (ordW b d == some .eq) fun t => k (.bool !(s && t))
    | _ => other
  | _, _ => other

theorem eqGuard_num {P : Program} {w : World} {op : BinOp} {t : TypeId} {x y : Operand} {u v : Value}
    (hu : (match u with | .nilIface | .agg _ => false | _ => true) = true) : (eqGuard op t x y u v).run P w = .ok () w := by
  cases u <;> simp only [Bool.false_eq_true] at hu <;> (unfold eqGuard; cases op <;> rfl)

theorem run_int_arith {P : Program} {w : World} {op : BinOp} {t : TypeId} {k : IntKind} {x y n : Int} (h : iarith op k x y = some n) :
    (binOp op t (.int k x) (.int k y)).run P w = .ok (.int k n) w := by
  unfold iarith at h
  split at h
  · cases h; simp [binOp, Op.intArith]
  · cases h; simp [binOp, Op.intArith]
  · cases h; simp [binOp, Op.intArith]
  · cases hy : (y == 0) with
    | true => rw [hy] at h; cases h
    | false =>
      rw [hy] at h
      cases h
      have : y ≠ 0 := by simpa using hy
      simp [binOp, Op.intDiv, this]
  · cases hy : (y == 0) with
    | true => rw [hy] at h; cases h
    | false =>
      rw [hy] at h
      cases h
      have : y ≠ 0 := by simpa using hy
      simp [binOp, Op.intDiv, this]
  · cases h

theorem run_int_cmp {P : Program} {w : World} {op : BinOp} {t : TypeId} {k : IntKind} {x y : Int} {n : Bool} (h : icmp op x y = some n) :
    (binOp op t (.int k x) (.int k y)).run P w = .ok (.bool n) w := by
  unfold icmp at h
  split at h <;> first | (cases h; simp [binOp, Op.intCmp]; done) | cases h

theorem run_complex_eql {P : Program} (w : World) (t : TypeId) (a b c d : Nat) :
    (binOp .eql t (.complex .f64 a b) (.complex .f64 c d)).run P w = .ok (.bool ((ordW a c == some .eq) && (ordW b d == some .eq))) w := by
  rw [ordW_eq, ordW_eq]
  simp [binOp, Op.complexOp, Op.Complex.cmp, Op.floatCmp, asBool]
  rfl

theorem run_complex_neq {P : Program} (w : World) (t : TypeId) (a b c d : Nat) :
    (binOp .neq t (.complex .f64 a b) (.complex .f64 c d)).run P w = .ok (.bool !((ordW a c == some .eq) && (ordW b d == some .eq))) w := by
  rw [ordW_eq, ordW_eq]
  simp [binOp, Op.complexOp, Op.Complex.cmp, Op.floatCmp, asBool]
  rfl

theorem run_float_cmp {P : Program} {w : World} {op : BinOp} {t : TypeId} {x y : Nat} {n : Bool} (h : fcmp op x y = some n) :
    (binOp op t (.float .f64 x) (.float .f64 y)).run P w = .ok (.bool n) w := by
  unfold fcmp at h
  simp only [ordW_eq] at h
  split at h <;> first | (cases h; simp [binOp, Op.floatCmp]; done) | (cases h; simp only [binOp, Op.floatCmp]; rfl) | cases h

theorem binE_sound {R : Type} {P : Program} {op : BinOp} {t : TypeId} {ox oy : Operand} {x y : Value} {k : Value → Option R} {other : Option R} {r : R}
    {fi : Fi} (hfi : fi.Fair) (h : binE fi op x y k other = some r) :
    other = some r ∨ ∃ v, k v = some r ∧ flat v = true ∧ ∀ {ρ : Map} {w : World} {x' y' : Value}, VRel ρ x x' → VRel ρ y y' → ((do eqGuard op t ox oy x' y'; binOp op t x' y') : Sem Value).run P w = .ok v w := by
  unfold binE at h
  split at h
  · rename_i a b
    cases ha : isArith op with
    | true =>
      rw [ha] at h
      obtain ⟨n, h1, h2⟩ := bindF_some h
      refine .inr ⟨_, h2, rfl, fun {ρ w x' y'} hx hy => ?_⟩
      cases hx; cases hy
      rw [Sem.run_bind, eqGuard_num rfl]; exact run_float_arith w op t .f64 a b n (by rw [← fbF_eq]; exact h1)
    | false =>
      rw [ha] at h
      obtain ⟨n, h1, h2⟩ := bind_some' h
      rw [forceB_eq] at h2
      refine .inr ⟨_, h2, rfl, fun {ρ w x' y'} hx hy => ?_⟩
      cases hx; cases hy
      rw [Sem.run_bind, eqGuard_num rfl]; exact run_float_cmp h1
  · rename_i ka a kb b
    cases hc : (decide (ka = kb) && (isArith op || isCmp op || decide (op = .rem))) with
    | false => rw [hc] at h; exact .inl h
    | true =>
      rw [hc] at h
      simp only [Bool.and_eq_true, decide_eq_true_eq] at hc
      obtain ⟨rfl, _⟩ := hc
      simp only [cond_true] at h
      cases hcm : isCmp op with
      | true =>
        rw [hcm] at h
        obtain ⟨n, h1, h2⟩ := bind_some' h
        rw [forceB_eq] at h2
        refine .inr ⟨_, h2, rfl, fun {ρ w x' y'} hx hy => ?_⟩
        cases hx; cases hy
        rw [Sem.run_bind, eqGuard_num rfl]; exact run_int_cmp h1
      | false =>
        rw [hcm] at h
        obtain ⟨n, h1, h2⟩ := bind_some' h
        rw [hfi] at h2
        refine .inr ⟨_, h2, rfl, fun {ρ w x' y'} hx hy => ?_⟩
        cases hx; cases hy
        rw [Sem.run_bind, eqGuard_num rfl]; exact run_int_arith h1
  · rename_i a b c d
    split at h
    · obtain ⟨n, h1, h⟩ := bindF_some h
      obtain ⟨m, h2, h⟩ := bindF_some h
      refine .inr ⟨_, h, rfl, fun {ρ w x' y'} hx hy => ?_⟩
      cases hx; cases hy
      rw [Sem.run_bind, eqGuard_num rfl]; exact run_complex_sum w .add (.inl rfl) t .f64 a b c d n m (by rw [fbF_eq] at h1 h2; simp [cSumBits, h1, h2])
    · obtain ⟨n, h1, h⟩ := bindF_some h
      obtain ⟨m, h2, h⟩ := bindF_some h
      refine .inr ⟨_, h, rfl, fun {ρ w x' y'} hx hy => ?_⟩
      cases hx; cases hy
      rw [Sem.run_bind, eqGuard_num rfl]; exact run_complex_sum w .sub (.inr rfl) t .f64 a b c d n m (by rw [fbF_eq] at h1 h2; simp [cSumBits, h1, h2])
    · rw [forceB_eq, forceB_eq] at h
      refine .inr ⟨_, h, rfl, fun {ρ w x' y'} hx hy => ?_⟩
      cases hx; cases hy
      rw [Sem.run_bind, eqGuard_num rfl]; exact run_complex_eql (P := P) w t a b c d
    · rw [forceB_eq, forceB_eq] at h
      refine .inr ⟨_, h, rfl, fun {ρ w x' y'} hx hy => ?_⟩
      cases hx; cases hy
      rw [Sem.run_bind, eqGuard_num rfl]; exact run_complex_neq (P := P) w t a b c d
    · exact .inl h
  · exact .inl h

/-! ### Parts of a struct or an array, built -/
def fillL (place : Nat → Option (Nat × Nat)) (cs : List Value) : List (Nat × Value) → Option (List Value)
  | [] => some cs
  | (i, v) :: rest =>
    match place i with
    | none => none
    | some (off, size) =>
      bif Nat.beq v.cells.toList.length size && Nat.ble (off + v.cells.toList.length) cs.length then fillL place (splice cs off v.cells.toList) rest else none

theorem fill_fold (off : Nat) (cells vs : Array Value) (h : off + vs.size ≤ cells.size) :
    vs.zipIdx.foldl (fun cs (c, j) => cs.setIfInBounds (off + j) c) cells = ⟨splice cells.toList off vs.toList⟩ := by
  apply Array.ext'
  apply List.ext_getElem?
  intro i
  have : (vs.zipIdx.foldl (fun (cs : Array Value) (x : Value × Nat) => cs.setIfInBounds (off + x.2) x.1) cells) = (vs.toList.zipIdx.foldl (fun a x => a.setIfInBounds (off + x.2) x.1) cells) := by
    rw [← Array.foldl_toList, Array.toList_zipIdx]
  have e : (vs.zipIdx.foldl (fun cs (c, j) => cs.setIfInBounds (off + j) c) cells) = (vs.zipIdx.foldl (fun (cs : Array Value) (x : Value × Nat) => cs.setIfInBounds (off + x.2) x.1) cells) := rfl
  rw [e, this, Array.getElem?_toList, foldl_set_get, splice_get (by simpa using h)]
  simp only [Array.length_toList, Array.getElem?_toList]
  by_cases h1 : off ≤ i ∧ i < off + vs.size
  · rw [if_pos (by omega), if_pos h1]
  · rw [if_neg (by omega), if_neg h1]

inductive PRels (ρ : Map) : List (Nat × Value) → List (Nat × Value) → Prop
  | nil : PRels ρ [] []
  | cons (i : Nat) {v v' : Value} {r r' : List (Nat × Value)} (h : VRel ρ v v') (hs : PRels ρ r r') : PRels ρ ((i, v) :: r) ((i, v') :: r')

theorem fill_rel {ρ : Map} {place : Nat → Option (Nat × Nat)} : ∀ {parts parts' : List (Nat × Value)} {cs : List Value} {cells' : Array Value} {res : List Value}, PRels ρ parts parts' → VRels ρ cs cells'.toList →
    fillL place cs parts = some res → ∃ res' : Array Value, Instr.fill place cells' parts' = some res' ∧ VRels ρ res res'.toList
  | _, _, cs, cells', res, .nil, hc, h => by simp [fillL] at h; subst h; exact ⟨cells', rfl, hc⟩
  | _, _, cs, cells', res, .cons i (v := v) (v' := v') hv hs, hc, h => by
    unfold fillL at h
    unfold Instr.fill
    cases hp : place i with
    | none => simp [hp] at h
    | some p =>
      obtain ⟨off, size⟩ := p
      simp only [hp] at h ⊢
      cases hb : (Nat.beq v.cells.toList.length size && Nat.ble (off + v.cells.toList.length) cs.length) with
      | false => rw [hb] at h; cases h
      | true =>
        rw [hb] at h
        simp only [cond_true] at h
        simp only [Bool.and_eq_true, Nat.beq_eq, Nat.ble_eq] at hb
        have h1 := hv.cells
        have h2 := h1.length
        have h3 := hc.length
        have e1 : v'.cells.size = size := by have : v'.cells.toList.length = v'.cells.size := by simp
                                             omega
        have e2 : off + v'.cells.size ≤ cells'.size := by
          have : cells'.toList.length = cells'.size := by simp
          have : v'.cells.toList.length = v'.cells.size := by simp
          omega
        have hno : (decide (v'.cells.size ≠ size) || decide (off + v'.cells.size > cells'.size)) = false := by simp [e1]; omega
        rw [hno]
        simp only [Bool.false_eq_true, if_false]
        rw [fill_fold off cells' v'.cells e2]
        exact fill_rel hs (hc.splice h1 off) h

def partsE (e : Env) : List (Nat × Operand) → Option (List (Nat × Value))
  | [] => some []
  | (i, x) :: r => (opd e x).bind fun v => (partsE e r).bind fun vs => some ((i, v) :: vs)

theorem partsE_rel {ρ : Map} {e : Env} {a : Act} (he : EnvRel ρ e a.tmps) : ∀ {xs : List (Nat × Operand)} {vs : List (Nat × Value)}, partsE e xs = some vs → PRels ρ vs (xs.map fun (i, x) => (i, a.eval x))
  | [], vs, h => by simp [partsE] at h; subst h; exact .nil
  | (i, x) :: r, vs, h => by
    obtain ⟨v, h1, h⟩ := bind_some' h
    obtain ⟨us, h2, h⟩ := bind_some' h
    cases h
    exact .cons i (opd_rel he h1) (partsE_rel he h2)

def placesOf (P : Program) (fields : Array Field) : Option (Array (Nat × Nat)) := calm P (fields.mapM fun f => do pure (f.offset, ← sizeOf f.type))

def buildE {R : Type} (P : Program) (t : TypeId) (parts : List (Nat × Value)) (k : Value → Option R) : Option R :=
  (calm P (zeroValue t)).bind fun z =>
    bif flat z then
      match P.underlying t with
      | some (.struct fields) => (placesOf P fields).bind fun places => (fillL (fun i => places[i]?) z.cells.toList parts).bind fun cs => k (.agg ⟨cs⟩)
      | some (.array _ elem) => (calm P (sizeOf elem)).bind fun size => (fillL (fun i => some (i * size, size)) z.cells.toList parts).bind fun cs => k (.agg ⟨cs⟩)
      | _ => none
    else none

theorem flat_cells {v : Value} (h : flat v = true) (ρ : Map) : VRels ρ v.cells.toList v.cells.toList := (VRel.ofFlat ρ h).cells

theorem buildE_sound {R : Type} {P : Program} {t : TypeId} {parts : List (Nat × Value)} {k : Value → Option R} {r : R} (h : buildE P t parts k = some r) :
    ∃ v, k v = some r ∧ ∀ {ρ : Map} {w : World} {parts' : List (Nat × Value)}, PRels ρ parts parts' → ∃ v', (Instr.build t parts'.toArray).run P w = .ok v' w ∧ VRel ρ v v' := by
  unfold buildE at h
  obtain ⟨z, h1, h⟩ := bind_some' h
  cases hf : flat z with
  | false => rw [hf] at h; cases h
  | true =>
    rw [hf] at h
    simp only [cond_true] at h
    have hz := calm_run h1
    split at h
    · rename_i fields hu
      obtain ⟨places, h2, h⟩ := bind_some' h
      obtain ⟨cs, h3, h⟩ := bind_some' h
      refine ⟨_, h, fun {ρ w parts'} hp => ?_⟩
      obtain ⟨res', g1, g2⟩ := fill_rel hp (flat_cells hf ρ) h3
      obtain ⟨l⟩ := res'
      have hpl := calm_run (show calm P (fields.mapM fun f => do pure (f.offset, ← sizeOf f.type)) = some places from h2)
      refine ⟨.agg ⟨l⟩, ?_, .agg g2⟩
      unfold Instr.build
      simp only [Sem.run_bind, hz, run_underlying hu, hpl, Result.andThen_ok, g1, Sem.run_pure]
    · rename_i n elem hu
      obtain ⟨size, h2, h⟩ := bind_some' h
      obtain ⟨cs, h3, h⟩ := bind_some' h
      refine ⟨_, h, fun {ρ w parts'} hp => ?_⟩
      obtain ⟨res', g1, g2⟩ := fill_rel hp (flat_cells hf ρ) h3
      obtain ⟨l⟩ := res'
      refine ⟨.agg ⟨l⟩, ?_, .agg g2⟩
      unfold Instr.build
      simp only [Sem.run_bind, hz, run_underlying hu, calm_run h2, Result.andThen_ok, g1, Sem.run_pure]
    · cases h

end Go.Vm
