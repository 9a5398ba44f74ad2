/- Maps with whole numbers as keys come of the abstract memory; no conditions. Append of noughts onto nil, and within room, comes of the abstract memory; no conditions. One operation that calls nothing is right; no conditions. -/
import Derived.Test.YtnbpfafngidimaaGreatVmH3
import Derived.MapKept
import Derived.Lib.AppendZeros
import Derived.Deep.Upon
namespace Go.Vm
open Go.MapKept
set_option linter.unusedVariables false
set_option linter.unusedSimpArgs false

/-! ### Maps with whole numbers as keys -/
def intKey (P : Program) (t : TypeId) : Option IntKind :=
  match P.underlying t with
  | some (.int kk) => some kk
  | _ => none

theorem intKey_some {P : Program} {t : TypeId} {kk : IntKind} (h : intKey P t = some kk) : P.underlying t = some (.int kk) := by
  unfold intKey at h
  split at h
  · cases h; assumption
  · cases h

def hintOk : Option Value → Bool
  | none => true
  | some (.int _ _) => true
  | _ => false

def mapMakeE {R : Type} (P : Program) (H : AH) (t : TypeId) (hint : Option Value) (k : Value → AH → Option R) : Option R :=
  match P.underlying t with
  | some (.map kt _) => (intKey P kt).bind fun kk => bif hintOk hint then k (.map (some H.next)) (H.push (.map kk [])) else none
  | _ => none

theorem mapMakeE_sound {R : Type} {P : Program} {lo : Nat} {H : AH} {t : TypeId} {hint : Option Value} {ho : Option Operand} {k : Value → AH → Option R} {r : R} (h : mapMakeE P H t hint k = some r)
    {o : Oper} (hop : o.op = .makeMap t ho) : ∃ v H', k v H' = some r ∧ ∀ {ρ : Map} {w : World} {a : Act}, Inv ρ H w → lo ≤ H.next → ORel ρ hint (ho.map a.eval) → Done P lo o a ρ H w v H' := by
  unfold mapMakeE at h
  split at h
  · rename_i kt et hu
    obtain ⟨kk, hk, h⟩ := bind_some' h
    cases hh : hintOk hint with
    | false => rw [hh] at h; cases h
    | true =>
      rw [hh] at h
      simp only [cond_true] at h
      refine ⟨_, _, h, fun {ρ w a} hi hlo hr => ?_⟩
      have hrun : (Instr.makeMap t (ho.map a.eval)).run P w = .ok (.map (some w.heap.size)) (w.alloc (.map #[] 0)) := by
        generalize ho.map a.eval = x at hr
        cases hr with
        | none => rfl
        | some hv =>
          cases hv <;> simp only [hintOk, Bool.false_eq_true] at hh
          simp only [Instr.makeMap, Sem.run_bind, run_underlying hu, Result.andThen_ok, asInt, asIntOf, Sem.run_pure]
          rfl
      refine Done.value (v' := .map (some w.heap.size)) ?_ (Next.alloc hi hlo (.map kk []) (.map #[] 0) 0 ⟨#[], 0, ?_, .nil⟩) (VRel.map (s := ⟨w.heap.size, 0, 0⟩) (upd_same _ _ _))
      · simp only [execOp, hop]
        rw [Sem.run_bind, hrun]
        rfl
      show (w.heap.push _)[w.heap.size]? = _
      simp
  · cases h

def findM (n : Int) : List (Int × Value) → Nat → Option (Nat × Value)
  | [], _ => none
  | (m, v) :: r, i => bif n == m then some (i, v) else findM n r (i + 1)

theorem findM_spec {ρ : Map} {kk kd : IntKind} {n : Int} : ∀ {es : List (Int × Value)} {es' : List MapEntry} {i : Nat}, MRels ρ kk es es' →
    (findM n es i = none → Instr.findNow (.int kd) (.int kk n) es' i = some none) ∧
    (∀ j v, findM n es i = some (j, v) → ∃ v', Instr.findNow (.int kd) (.int kk n) es' i = some (some (j, v')) ∧ VRel ρ v v')
  | _, _, i, .nil => ⟨fun _ => rfl, fun j v h => by cases h⟩
  | _, _, i, .cons (n := m) (v := v) (v' := v') (b := b) (es := es) (es' := es') hv hs => by
    obtain ⟨g1, g2⟩ := findM_spec (n := n) (kd := kd) (i := i + 1) hs
    have hsame : Instr.sameNow (.int kd) (.int kk n) (.int kk m) = some (n == m) := by simp [Instr.sameNow]
    unfold findM Instr.findNow
    rw [hsame]
    cases hb : (n == m) with
    | true =>
      refine ⟨fun h => ?_, fun j u h => ?_⟩
      · cases h
      · cases h
        exact ⟨_, rfl, hv⟩
    | false => exact ⟨g1, g2⟩

theorem MRels.snoc {ρ : Map} {kk : IntKind} {n : Int} {v v' : Value} {b : Nat} (h : VRel ρ v v') : ∀ {es : List (Int × Value)} {es' : List MapEntry}, MRels ρ kk es es' →
    MRels ρ kk (es ++ [(n, v)]) (es' ++ [{ key := .int kk n, val := v', born := b }])
  | _, _, .nil => .cons h .nil
  | _, _, .cons hv hs => .cons hv (MRels.snoc h hs)

def okV (ok : Bool) (v : Value) (b : Bool) : Value := match ok with | true => .tuple ⟨[v, .bool b]⟩ | false => v

theorem okV_rel {ρ : Map} {ok : Bool} {v v' : Value} (h : VRel ρ v v') (b : Bool) : VRel ρ (okV ok v b) (okV ok v' b) := by
  cases ok
  · exact h
  · exact .tuple (.cons h (.cons (.bool b) .nil))

def mapGetE {R : Type} (P : Program) (H : AH) (t : TypeId) (m i : Value) (ok : Bool) (k : Value → Option R) : Option R :=
  match P.underlying t, m, i with
  | some (.map kt et), .map (some b), .int ki n =>
    (intKey P kt).bind fun kd =>
      match look b H.objs with
      | some (.map kk es) =>
        bif decide (kk = ki) && decide (kd = ki) then
          match findM n es 0 with
          | some (_, v) => k (okV ok v true)
          | none => (calm P (zeroValue et)).bind fun z => bif flat z then k (okV ok z false) else none
        else none
      | _ => none
  | _, _, _ => none

theorem mapGetE_sound {R : Type} {P : Program} {lo : Nat} {H : AH} {t : TypeId} {m i : Value} {mo io : Operand} {ok : Bool} {k : Value → Option R} {r : R} (h : mapGetE P H t m i ok k = some r)
    {o : Oper} (hop : o.op = .lookup t mo io ok) : ∃ v, k v = some r ∧ ∀ {ρ : Map} {w : World} {a : Act}, Inv ρ H w → VRel ρ m (a.eval mo) → VRel ρ i (a.eval io) → Done P lo o a ρ H w v H := by
  unfold mapGetE at h
  split at h
  · rename_i kt et b ki n hu
    obtain ⟨kd, hk, h'⟩ := bind_some' h
    clear h
    rename _ => h
    split at h
    · rename_i kk es hl
      cases hkk : (decide (kk = ki) && decide (kd = ki)) with
      | false => rw [hkk] at h; cases h
      | true =>
        rw [hkk] at h
        simp only [Bool.and_eq_true, decide_eq_true_eq] at hkk
        have e1 : kk = ki := hkk.1
        have e2 : kk = kd := hkk.1.trans hkk.2.symm
        subst e1
        subst e2
        replace h : (match findM n es 0 with | some (_, v) => k (okV ok v true) | none => (calm P (zeroValue et)).bind fun z => bif flat z then k (okV ok z false) else none) = some r := h
        have hkt := intKey_some hk
        have base : ∀ {ρ : Map} {w : World} {a : Act}, Inv ρ H w → VRel ρ (.map (some b)) (a.eval mo) → VRel ρ (.int kk n) (a.eval io) →
            ∃ es' : List MapEntry, MRels ρ kk es es' ∧ (∀ j u, Instr.findNow (.int kk) (.int kk n) es' 0 = some (some (j, u)) → (execOp a.eval o).run P w = .ok (.value (okV ok u true)) w) ∧
              (∀ z, Instr.findNow (.int kk) (.int kk n) es' 0 = some none → (zeroValue et).run P w = .ok z w → (execOp a.eval o).run P w = .ok (.value (okV ok z false)) w) := by
          intro ρ w a hi hm hx
          generalize e1 : a.eval mo = m' at hm
          generalize e2 : a.eval io = i' at hx
          cases hx
          cases hm with
          | @map _ s hs =>
            obtain ⟨s2, q1, q2⟩ := hi.rel.obj b _ (look_mem hl)
            rw [hs] at q1
            cases q1
            obtain ⟨arr, clock, q3, q4⟩ := q2
            have hkey : IsKey (.int kk) (.int kk n) := rfl
            have up : ∀ v, (Instr.lookup t (.map (some s.b)) (.int kk n) ok).run P w = .ok v w → (execOp a.eval o).run P w = .ok (.value v) w := fun v hrun => by
              simp only [execOp, hop, e1, e2]
              rw [Sem.run_bind, hrun]
              rfl
            refine ⟨arr.toList, q4, fun j u hf => up _ ?_, fun z hf hz => up _ ?_⟩
            · unfold Instr.lookup
              simp only [Sem.run_bind, run_underlying hu, Result.andThen_ok, Go.MapKept.run_getObj_map q3, Sem.run_pure]
              rw [run_checkKey hkt hkey _ 9999]
              simp only [Result.andThen_ok]
              rw [run_findKey hkt hf]
              cases ok <;> rfl
            · unfold Instr.lookup
              simp only [Sem.run_bind, run_underlying hu, Result.andThen_ok, Go.MapKept.run_getObj_map q3, Sem.run_pure]
              rw [run_checkKey hkt hkey _ 9999]
              simp only [Result.andThen_ok]
              rw [run_findKey hkt hf]
              simp only [Result.andThen_ok, Sem.run_bind, hz, Sem.run_pure]
              cases ok <;> rfl
        split at h
        · rename_i j v hf
          refine ⟨_, h, fun {ρ w a} hi hm hx => ?_⟩
          obtain ⟨es', q1, q2, _⟩ := base hi hm hx
          obtain ⟨v', q3, q4⟩ := (findM_spec (kd := kk) q1).2 j v hf
          exact Done.value (w' := w) (q2 _ _ q3) (Next.refl hi) (okV_rel q4 true)
        · rename_i hf
          obtain ⟨z, hz, h⟩ := bind_some' h
          cases hfl : flat z with
          | false => rw [hfl] at h; cases h
          | true =>
            rw [hfl] at h
            refine ⟨_, h, fun {ρ w a} hi hm hx => ?_⟩
            obtain ⟨es', q1, _, q2⟩ := base hi hm hx
            have q3 := (findM_spec (kd := kk) q1).1 hf
            exact Done.value (w' := w) (q2 z q3 (calm_run hz w)) (Next.refl hi) (okV_rel (VRel.ofFlat ρ hfl) false)
    · cases h
  · cases h

def mapPutE {R : Type} (P : Program) (lo : Nat) (H : AH) (t : TypeId) (m i x : Value) (k : AH → Option R) : Option R :=
  match P.underlying t, m, i with
  | some (.map kt et), .map (some b), .int ki n =>
    (intKey P kt).bind fun kd =>
      match look b H.objs with
      | some (.map kk es) =>
        bif decide (kk = ki) && decide (kd = ki) && Nat.ble lo b then
          match findM n es 0 with
          | some _ => none
          | none => k (H.put b (.map kk (es ++ [(n, x)])))
        else none
      | _ => none
  | _, _, _ => none

theorem mapPutE_sound {R : Type} {P : Program} {lo : Nat} {H : AH} {t : TypeId} {m i x : Value} {mo io xo : Operand} {k : AH → Option R} {r : R} (h : mapPutE P lo H t m i x k = some r)
    {o : Oper} (hop : o.op = .mapUpdate t mo io xo ∨ o.op = .insert t mo io xo) :
    ∃ H', k H' = some r ∧ ∀ {ρ : Map} {w : World} {a : Act}, Inv ρ H w → VRel ρ m (a.eval mo) → VRel ρ i (a.eval io) → VRel ρ x (a.eval xo) → Done P lo o a ρ H w undef H' := by
  unfold mapPutE at h
  split at h
  · rename_i kt et b ki n hu
    obtain ⟨kd, hk, h'⟩ := bind_some' h
    clear h
    rename _ => h
    split at h
    · rename_i kk es hl
      cases hkk : (decide (kk = ki) && decide (kd = ki) && Nat.ble lo b) with
      | false => rw [hkk] at h; cases h
      | true =>
        rw [hkk] at h
        simp only [Bool.and_eq_true, decide_eq_true_eq, Nat.ble_eq] at hkk
        have e1 : kk = ki := hkk.1.1
        have e2 : kk = kd := hkk.1.1.trans hkk.1.2.symm
        have hlo := hkk.2
        subst e1
        subst e2
        replace h : (match findM n es 0 with | some _ => none | none => k (H.put b (.map _ (es ++ [(n, x)])))) = some r := h
        have hkt := intKey_some hk
        split at h
        · cases h
        · rename_i hf
          refine ⟨_, h, fun {ρ w a} hi hm hx hv => ?_⟩
          generalize e1 : a.eval mo = m' at hm
          generalize e2 : a.eval io = i' at hx
          generalize e3 : a.eval xo = x' at hv
          cases hx
          cases hm with
          | @map _ s hs =>
            obtain ⟨s2, q1, q2⟩ := hi.rel.obj b _ (look_mem hl)
            rw [hs] at q1
            cases q1
            obtain ⟨arr, clock, q3, q4⟩ := q2
            have q5 := (findM_spec (kd := kk) q4).1 hf
            have hkey : IsKey (.int kk) (.int kk n) := rfl
            have hrun : (Instr.mapUpdate t (.map (some s.b)) (.int kk n) x').run P w = .ok () { w with heap := w.heap.setIfInBounds s.b (.map (arr.push { key := .int kk n, val := x', born := clock }) (clock + 1)) } := by
              unfold Instr.mapUpdate
              simp only [Sem.run_bind, run_underlying hu, Result.andThen_ok, Go.MapKept.run_getObj_map q3]
              rw [run_checkKey hkt hkey _ 9999]
              simp only [Result.andThen_ok]
              rw [run_findKey hkt q5]
              simp only [Result.andThen_ok]
              exact run_setObj_map _ q3
            have hset := heap_set (o' := .map (arr.push { key := .int kk n, val := x', born := clock }) (clock + 1)) q3
            refine Done.skip (w' := { w with heap := w.heap.setIfInBounds s.b (.map (arr.push { key := .int kk n, val := x', born := clock }) (clock + 1)) }) ?_
              (Next.write hi (look_mem hl) hlo hs _ (by simp) rfl rfl rfl (fun b' hb' => hset.2 b' hb') ⟨_, _, hset.1, ?_⟩)
            · rcases hop with hop | hop <;>
              · simp only [execOp, hop, e1, e2, e3]
                rw [Sem.run_bind, hrun]
                rfl
            · rw [Array.toList_push]
              exact MRels.snoc hv q4
    · cases h
  · cases h
end Go.Vm
namespace Go.Vm
set_option linter.unusedVariables false
set_option linter.unusedSimpArgs false

/-! ### append: of so many noughts onto nil; and within the room that is known -/
def zerosL (z : Array Value) (n : Nat) : List Value := (List.range (n * z.size)).map fun i => z[i % z.size]!
theorem zerosL_eq (z : Array Value) (n : Nat) : (Builtin.zeroCells z n).toList = zerosL z n := by
  unfold Builtin.zeroCells zerosL
  rw [Array.toList_map, Array.toList_range]

def append0E {R : Type} (P : Program) (H : AH) (t t' : TypeId) (kk : IntKind) (n : Int) (k : Value → AH → Option R) : Option R :=
  match P.underlying t, P.underlying t' with
  | some (.slice e), some (.int _) =>
    match P.info? e with
    | some i =>
      match i.zero with
      | some z =>
        match n with
        | .ofNat m =>
          bif Nat.blt 0 i.size && Nat.beq z.cells.size i.size && Nat.blt 0 m && Nat.ble (m * i.bytes) 140737488355328 && Nat.ble m 1099511627776 && inns 0 (zerosL z.cells m) then
            k (.slice (some ⟨H.next, 0, none⟩) m m) (H.push (.cells (zerosL z.cells m) i.size))
          else none
        | _ => none
      | none => none
    | none => none
  | _, _ => none

theorem append0E_sound {R : Type} {P : Program} {lo : Nat} {H : AH} {t t' : TypeId} {kk : IntKind} {n : Int} {k : Value → AH → Option R} {r : R} (h : append0E P H t t' kk n k = some r) :
    ∃ v H', k v H' = some r ∧ ∀ {ρ : Map} {w : World} {ty : TypeId}, Inv ρ H w → lo ≤ H.next →
      ∃ ρ' w' v', (Builtin.append_ ⟨[t, t']⟩ ty #[.slice none 0 0, .int kk n]).run P w = .ok v' w' ∧ Next lo ρ H w ρ' H' w' ∧ VRel ρ' v v' := by
  unfold append0E at h
  split at h
  case h_2 => cases h
  rename_i e kn hu hu'
  split at h
  case h_2 => cases h
  rename_i i hi
  split at h
  case h_2 => cases h
  rename_i z hz
  split at h
  case h_2 => cases h
  rename_i m
  cases hb : (Nat.blt 0 i.size && Nat.beq z.cells.size i.size && Nat.blt 0 m && Nat.ble (m * i.bytes) 140737488355328 && Nat.ble m 1099511627776 && inns 0 (zerosL z.cells m)) with
  | false => rw [hb] at h; cases h
  | true =>
    rw [hb] at h
    simp only [Bool.and_eq_true, Nat.blt_eq, Nat.ble_eq, Nat.beq_eq] at hb
    obtain ⟨⟨⟨⟨⟨b1, b2⟩, b3⟩, b4⟩, b5⟩, b6⟩ := hb
    refine ⟨_, _, h, fun {ρ w ty} hinv hlo => ?_⟩
    have hrun := Lib.run_append_nil_zeros (P := P) w t t' ty e i z kk kn hu hu' hi hz m b3 b1 (by omega) (by omega)
    have hge := grownCap_ge w m 0 e
    have hlen : (zerosL z.cells m).length = m * i.size := by unfold zerosL; simp [b2]
    obtain ⟨q1, q2⟩ := grown (P := P) (lo := lo) hinv hlo (VRels.ofFlat ρ b6) hlen b1 hge b2 (arr := Builtin.zeroCells z.cells m ++ Builtin.zeroCells z.cells (grownCap w m 0 e - m)) (by rw [Array.toList_append, zerosL_eq]) e
    exact ⟨_, _, _, hrun, q1, q2⟩

def appendInE {R : Type} (P : Program) (lo : Nat) (H : AH) (t t' : TypeId) (sd : Addr) (n c : Nat) (ad : Addr) (m : Nat) (k : Value → AH → Option R) : Option R :=
  bif Nat.beq t t' then
    match P.underlying t with
    | some (.slice e) =>
      match P.info? e with
      | some i =>
        (newsE H i.size ad m).bind fun news =>
          match look sd.block H.objs with
          | some (.cells cs sz) =>
            bif allOne news && Nat.ble lo sd.block && sd.spot.isNone && Nat.ble (n + m) c && Nat.ble (sd.off + n * i.size + news.length) cs.length then
              k (.slice (some sd) (n + m) c) (H.put sd.block (.cells (splice cs (sd.off + n * i.size) news) sz))
            else none
          | _ => none
      | none => none
    | _ => none
  else none

theorem appendInE_sound {R : Type} {P : Program} {lo : Nat} {H : AH} {t t' : TypeId} {sd ad : Addr} {n c m cx : Nat} {k : Value → AH → Option R} {r : R} (h : appendInE P lo H t t' sd n c ad m k = some r) :
    ∃ v H', k v H' = some r ∧ ∀ {ρ : Map} {w : World} {s' x' : Value} {ty : TypeId}, Inv ρ H w → lo ≤ H.next → VRel ρ (.slice (some sd) n c) s' → VRel ρ (.slice (some ad) m cx) x' →
      ∃ ρ' w' v', (Builtin.append_ ⟨[t, t']⟩ ty #[s', x']).run P w = .ok v' w' ∧ Next lo ρ H w ρ' H' w' ∧ VRel ρ' v v' := by
  unfold appendInE at h
  cases htt : Nat.beq t t' with
  | false => rw [htt] at h; cases h
  | true =>
  rw [htt] at h
  have := Nat.eq_of_beq_eq_true htt
  subst this
  simp only [cond_true] at h
  split at h
  case h_2 => cases h
  rename_i e hu
  split at h
  case h_2 => cases h
  rename_i i hi
  obtain ⟨news, hnews, h2⟩ := bind_some' h
  clear h
  obtain ⟨nl, nsound⟩ := newsE_sound hnews
  split at h2
  case h_2 => cases h2
  rename_i cs sz hl
  cases hb : (allOne news && Nat.ble lo sd.block && sd.spot.isNone && Nat.ble (n + m) c && Nat.ble (sd.off + n * i.size + news.length) cs.length) with
  | false => rw [hb] at h2; cases h2
  | true =>
    rw [hb] at h2
    simp only [Bool.and_eq_true, Nat.ble_eq] at hb
    obtain ⟨⟨⟨⟨b1, b2⟩, b3⟩, b5⟩, b4⟩ := hb
    refine ⟨_, _, h2, fun {ρ w s' x' ty} hinv hlo hd hs => ?_⟩
    cases hd with
    | @slice ks os _ _ ss hss =>
    cases hs with
    | @slice kb off _ _ sp hsp =>
      simp only at b2 b4
      obtain ⟨news', g1, g2, g3⟩ := nsound hinv hsp
      have hm0 := look_mem hl
      obtain ⟨s2, e1, e2⟩ := hinv.rel.obj ks _ hm0
      rw [hss] at e1
      cases e1
      obtain ⟨arr, tyo, cs', hlies, ar, ac, aext, ax0⟩ := e2
      obtain ⟨⟨fr, ab⟩, hz0⟩ := id hlies
      have arl := ar.length
      have hone := allOne_rel g1 b1
      have nl' := g1.length
      have hcell : ∀ j, j < cs.length → ∃ u, arr[ss.d + j]? = some u := fun j hj => by
        have hlt : j < cs'.length := by omega
        exact ⟨cs'[j], ac j _ (by simp [hlt])⟩
      have hrun := run_append_room_cells (P := P) w t ty e i hu hi ss.b (ss.d + os) n (c + ss.x) ⟨sp.b, sp.d + off, none⟩ m (cx + sp.x) news' g2 g3 hone (by omega)
        (fun j hj => by
          obtain ⟨u, hu'⟩ := hcell (os + n * i.size + j) (by omega)
          rw [show ss.d + os + n * i.size + j = ss.d + (os + n * i.size + j) by omega]
          simp [World.cell?, ab, hu']) (fun j hj => by
          rw [show ss.d + os + n * i.size + j = ss.d + (os + n * i.size + j) by omega]
          exact hz0 _ (by omega))
      obtain ⟨w1, w2, w3, w4, w5, w6⟩ := setCells_heap ss.b news' (ss.d + os + n * i.size) w arr tyo fr ab
      refine ⟨ρ, _, _, hrun, Next.write hinv hm0 b2 hss _ w3 w4 w5 w6 w2 ⟨_, tyo, splice cs' (os + n * i.size) news', hlies.put ab w1 rfl (by rw [splice_length (by omega)]; exact Nat.le_refl _), ar.splice g1 (os + n * i.size), fun j v hv => ?_, ?_, ax0⟩, ?_⟩
      · rw [splice_get (by omega)] at hv
        rw [foldl_set_get]
        split at hv
        · rename_i hin
          have : ss.d + j < arr.size := by
            obtain ⟨u', hu'⟩ := hcell j (by omega)
            exact (Array.getElem?_eq_some_iff.1 hu').1
          rw [if_pos (by omega), show ss.d + j - (ss.d + os + n * i.size) = j - (os + n * i.size) by omega]
          exact hv
        · rename_i hout
          rw [if_neg (by omega)]
          exact ac j v hv
      · rw [splice_length (by omega), foldl_set_size]
        exact aext
      · exact .slice hss

/-- the newest object's cells, one by one -/
def forceL {R : Type} : List Value → (List Value → R) → R
  | [], k => k []
  | v :: r, k => forceL r fun l => k (v :: l)
theorem forceL_eq {R : Type} : ∀ (l : List Value) (k : List Value → R), forceL l k = k l
  | [], k => rfl
  | v :: r, k => by unfold forceL; rw [forceL_eq r]
def forceTop {R : Type} (H : AH) (k : AH → R) : R := match H.objs with
  | (j, .cells cs sz) :: r => forceL cs fun cs => k ⟨H.next, (j, .cells cs sz) :: r⟩
  | _ => k H
theorem forceTop_eq {R : Type} (H : AH) (k : AH → R) : forceTop H k = k H := by
  obtain ⟨n, O⟩ := H
  unfold forceTop
  split
  · rename_i j cs sz r e
    rw [forceL_eq]
    simp only at e
    subst e
    rfl
  · rfl
/-- nothing is appended -/
def append00E {R : Type} (P : Program) (H : AH) (t t' : TypeId) (s : Value) (k : Value → AH → Option R) : Option R :=
  match P.underlying t, P.underlying t', s with
  | some (.slice e), some (.slice _), .slice a n c =>
    match P.info? e with
    | some _ => bif Nat.ble n c then k (.slice a n c) H else none
    | none => none
  | _, _, _ => none
theorem append00E_sound {R : Type} {P : Program} {lo : Nat} {H : AH} {t t' : TypeId} {s : Value} {k : Value → AH → Option R} {r : R} (h : append00E P H t t' s k = some r) :
    ∃ v H', k v H' = some r ∧ ∀ {ρ : Map} {w : World} {s' : Value} {ty : TypeId} {c' : Nat}, Inv ρ H w → lo ≤ H.next → VRel ρ s s' →
      ∃ ρ' w' v', (Builtin.append_ ⟨[t, t']⟩ ty #[s', .slice none 0 c']).run P w = .ok v' w' ∧ Next lo ρ H w ρ' H' w' ∧ VRel ρ' v v' := by
  unfold append00E at h
  split at h
  case h_2 => cases h
  rename_i e e' a n c hu hu'
  split at h
  case h_2 => cases h
  rename_i i hi
  cases hb : Nat.ble n c with
  | false => rw [hb] at h; cases h
  | true =>
    rw [hb] at h
    rw [Nat.ble_eq] at hb
    refine ⟨_, _, h, fun {ρ w s' ty c'} hinv hlo hs => ?_⟩
    have hsrc := Src.ofNil (P := P) w (size := i.size) hu' c'
    cases hs with
    | nilSlice => exact ⟨ρ, w, _, run_append_nothing (P := P) w t t' ty e i hu hi none n c hb _ hsrc, Next.refl hinv, .nilSlice n c⟩
    | @slice kb o _ _ sp g => exact ⟨ρ, w, _, run_append_nothing (P := P) w t t' ty e i hu hi _ n (c + sp.x) (by omega) _ hsrc, Next.refl hinv, .slice g⟩
def appendX {R : Type} (P : Program) (lo : Nat) (H : AH) (ts : List TypeId) (s x : Value) (k : Value → AH → Option R) : Option R :=
  match ts, s, x with
  | [t, t'], .slice none 0 0, .int kk n => append0E P H t t' kk n k
  | [t, t'], s, .slice none 0 0 => append00E P H t t' s k
  | [t, t'], .slice (some sd) n c, .slice (some ad) m _ => bif Nat.blt n c then appendInE P lo H t t' sd n c ad m k else appendE P lo H ts s x fun v H => forceTop H (k v)
  | _, _, _ => appendE P lo H ts s x fun v H => forceTop H (k v)

theorem appendX_sound {R : Type} {P : Program} {lo : Nat} {H : AH} {ts : List TypeId} {s x : Value} {k : Value → AH → Option R} {r : R} (h : appendX P lo H ts s x k = some r) :
    ∃ v H', k v H' = some r ∧ ∀ {ρ : Map} {w : World} {s' x' : Value} {ty : TypeId}, Inv ρ H w → lo ≤ H.next → VRel ρ s s' → VRel ρ x x' →
      ∃ ρ' w' v', (Builtin.append_ ⟨ts⟩ ty #[s', x']).run P w = .ok v' w' ∧ Next lo ρ H w ρ' H' w' ∧ VRel ρ' v v' := by
  unfold appendX at h
  simp only [forceTop_eq] at h
  split at h
  · obtain ⟨v, H', h1, h2⟩ := append0E_sound (lo := lo) h
    refine ⟨v, H', h1, fun {ρ w s' x' ty} hi hlo hs hx => ?_⟩
    cases hs
    cases hx
    exact h2 hi hlo
  · obtain ⟨v, H', h1, h2⟩ := append00E_sound (lo := lo) h
    refine ⟨v, H', h1, fun {ρ w s' x' ty} hi hlo hs hx => ?_⟩
    cases hx
    exact h2 hi hlo hs
  · rename_i t t' sd n c ad m cx
    cases hb : Nat.blt n c with
    | true =>
      rw [hb] at h
      exact appendInE_sound h
    | false =>
      rw [hb] at h
      exact appendE_sound h
  · exact appendE_sound h
end Go.Vm
namespace Go.Vm
set_option linter.unusedVariables false
set_option linter.unusedSimpArgs false

def optE (e : Env) : Option Operand → Option (Option Value)
  | none => some none
  | some x => (opd e x).bind fun v => some (some v)

theorem optE_rel {ρ : Map} {e : Env} {a : Act} (he : EnvRel ρ e a.tmps) {x : Option Operand} {v : Option Value} (h : optE e x = some v) : ORel ρ v (x.map a.eval) := by
  cases x with
  | none => simp [optE] at h; subst h; exact .none
  | some x =>
    obtain ⟨u, h1, h⟩ := bind_some' h
    cases h
    exact .some (opd_rel he h1)

/-- Where numbers that are none may come. -/
def nanIf {R : Type} (nn : Bool) (f : Option R → Option R) (other : Option R) : Option R := match nn with | true => f other | false => other
theorem nanIf_some {R : Type} {nn : Bool} {f : Option R → Option R} {other : Option R} {r : R} (h : nanIf nn f other = some r) : other = some r ∨ f other = some r := by
  cases nn
  · exact .inl h
  · exact .inr h

/-- One operation that is no call of a Go function. -/
def evOp {R : Type} (nn : Bool) (fi : Fi) (P : Program) (lo : Nat) (e : Env) (H : AH) (o : Oper) (k : Value → AH → Option R) : Option R :=
  match o.op with
  | .move x => (opd e x).bind fun v => k v H
  | .assign x => (opd e x).bind fun v => k v H
  | .pick c x y => (opd e c).bind fun c => pickE c (opd e x) (opd e y) fun v => k v H
  | .alloc t => allocE P H t k
  | .box t x => (opd e x).bind fun v => newE H v.cells.toList k
  | .build t ps => (partsE e ps.toList).bind fun vs => buildE P t vs fun v => k v H
  | .buildSlice t n ps => (partsE e ps.toList).bind fun vs => buildSliceE P H t n vs k
  | .load t x => (opd e x).bind fun v =>
      match v with
      | .pointer (some ad) =>
        match look ad.block H.objs with
        | some (.cells cs _) => loadE P t cs ad.off fun v => k v H
        | _ => none
      | _ => none
  | .store t x y => (opd e x).bind fun p => (opd e y).bind fun v =>
      match p with
      | .pointer (some ad) => storeE P lo H t ad v fun H' => k undef H'
      | _ => none
  | .nilCheck x => (opd e x).bind fun v => nilCheckE v fun v => k v H
  | .binOp op t x y _ => (opd e x).bind fun u => (opd e y).bind fun v => nanIf nn (nanBinE op u v fun v => k v H) (binE fi op u v (fun v => k v H) (eqAggE P op t u v (fun v => k v H) (eqNilE P op t u v (fun v => k v H) (calmOp P e H o k))))
  | .unOp op t x => (opd e x).bind fun u => unE op u (fun v => k v H) (calmOp P e H o k)
  | .convert s d x => (opd e x).bind fun u => convE fi P s d u (fun v => k v H) (calmOp P e H o k)
  | .makeInterface t x => (opd e x).bind fun u => makeIfaceE P t u fun v => k v H
  | .makeFunc f xs ys => (opds e xs.toList).bind fun us => (opds e ys.toList).bind fun vs => k (.func f ⟨us⟩ ⟨vs⟩) H
  | .makeSlice t l c => (opd e l).bind fun u => (opd e c).bind fun v => makeSliceE P H t u v k
  | .slice t x l h none => (opd e x).bind fun v => (optE e l).bind fun l => (optE e h).bind fun h => sliceE P H t v l h k
  | .fieldAddr s x f => (opd e x).bind fun v => fieldAddrE P s v f fun v => k v H
  | .field t x f => (opd e x).bind fun v => fieldE P t v f fun v => k v H
  | .indexAddr t x i => (opd e x).bind fun v => (opd e i).bind fun i => indexAddrE P t v i fun v => k v H
  | .index t x i => (opd e x).bind fun v => (opd e i).bind fun i => match v with
      | .string _ => calmOp P e H o k
      | v => indexE P t v i fun v => k v H
  | .typeAssert x _ t c => (opd e x).bind fun v => assertE P v t c fun v => k v H
  | .extract x i => (opd e x).bind fun v => extractE v i fun v => k v H
  | .makeMap t h => (optE e h).bind fun h => mapMakeE P H t h k
  | .lookup t x i ok => (opd e x).bind fun m => (opd e i).bind fun i => mapGetE P H t m i ok fun v => k v H
  | .mapUpdate t x i y => (opd e x).bind fun m => (opd e i).bind fun i => (opd e y).bind fun y => mapPutE P lo H t m i y fun H' => k undef H'
  | .insert t x i y => (opd e x).bind fun m => (opd e i).bind fun i => (opd e y).bind fun y => mapPutE P lo H t m i y fun H' => k undef H'
  | .call { callee := .builtin .append, args := xs, argTypes := ts } => (opds e xs.toList).bind fun vs =>
      match vs with
      | [s, x] => appendX P lo H ts.toList s x k
      | _ => none
  | .call { callee := .builtin .copy, args := xs, argTypes := ts } => (opds e xs.toList).bind fun vs =>
      match vs with
      | [d, s] => copyE P lo H ts.toList d s k
      | _ => none
  | .call { callee := .builtin b, args := xs, argTypes := ts } => (opds e xs.toList).bind fun vs => nanIf nn (nanBuiltinE b vs fun v => k v H) (builtinE P b ts vs (fun v => k v H) (calmOp P e H o k))
  | _ => none

theorem Done.flat {P : Program} {lo : Nat} {o : Oper} {a : Act} {ρ : Map} {H : AH} {w : World} {v : Value} (hi : Inv ρ H w) (hf : flat v = true)
    (hr : (execOp a.eval o).run P w = .ok (.value v) w) : Done P lo o a ρ H w v H := Done.calm hi hr (VRel.ofFlat ρ hf)

theorem evOp_sound {R : Type} {P : Program} {lo : Nat} {e : Env} {H : AH} {o : Oper} {k : Value → AH → Option R} {r : R} {nn : Bool} {fi : Fi} (hfi : fi.Fair) (h : evOp nn fi P lo e H o k = some r) :
    ∃ v H', k v H' = some r ∧ ∀ {ρ : Map} {w : World} {a : Act}, Inv ρ H w → lo ≤ H.next → EnvRel ρ e a.tmps → Done P lo o a ρ H w v H' := by
  have hcalm := fun h => calmOp_sound (lo := lo) (P := P) (e := e) (H := H) (o := o) (k := k) (r := r) h
  unfold evOp at h
  split at h
  · rename_i x ho
    obtain ⟨v, h1, h⟩ := bind_some' h
    exact ⟨v, H, h, fun {ρ w a} hi hlo he => Done.value (w' := w) (by simp [execOp, ho]) (Next.refl hi) (opd_rel he h1)⟩
  · rename_i x ho
    obtain ⟨v, h1, h⟩ := bind_some' h
    exact ⟨v, H, h, fun {ρ w a} hi hlo he => Done.value (w' := w) (by simp [execOp, ho]) (Next.refl hi) (opd_rel he h1)⟩
  · rename_i c x y ho
    obtain ⟨v, h1, h⟩ := bind_some' h
    unfold pickE at h
    split at h
    · rename_i t
      have hrun : ∀ {ρ : Map} {w : World} {a : Act}, EnvRel ρ e a.tmps → (execOp a.eval o).run P w = .ok (.value (if t then a.eval x else a.eval y)) w := fun {ρ w a} he => by
        have hc := opd_rel he h1
        generalize hec : a.eval c = c' at hc
        cases hc
        simp [execOp, ho, hec, asBool]
      split at h
      · rename_i u v hx hy
        refine ⟨_, H, h, fun {ρ w a} hi hlo he => Done.value (w' := w) (hrun he) (Next.refl hi) ?_⟩
        have r1 := opd_rel he hx
        have r2 := opd_rel he hy
        generalize a.eval x = x' at *
        generalize a.eval y = y' at *
        cases r1; cases r2
        cases t <;> exact .bool _
      · cases t with
        | true =>
          obtain ⟨v, h2, h⟩ := bind_some' (by simpa using h)
          exact ⟨v, H, h, fun {ρ w a} hi hlo he => Done.value (w' := w) (hrun he) (Next.refl hi) (opd_rel he h2)⟩
        | false =>
          obtain ⟨v, h2, h⟩ := bind_some' (by simpa using h)
          exact ⟨v, H, h, fun {ρ w a} hi hlo he => Done.value (w' := w) (hrun he) (Next.refl hi) (opd_rel he h2)⟩
    · cases h
  · rename_i t ho
    obtain ⟨v, H', g1, g2⟩ := allocE_sound (lo := lo) h ho
    exact ⟨v, H', g1, fun hi hlo he => g2 hi hlo⟩
  · rename_i t x ho
    obtain ⟨v, h1, h⟩ := bind_some' h
    obtain ⟨u, H', g1, g2⟩ := boxE_sound (P := P) (lo := lo) h ho
    exact ⟨u, H', g1, fun hi hlo he => g2 hi hlo (opd_rel he h1)⟩
  · rename_i t ps ho
    obtain ⟨vs, h1, h⟩ := bind_some' h
    obtain ⟨v, g1, g2⟩ := buildE_sound h
    refine ⟨v, H, g1, fun {ρ w a} hi hlo he => ?_⟩
    obtain ⟨v', g2, g3⟩ := g2 (w := w) (partsE_rel he h1)
    refine Done.value (w' := w) ?_ (Next.refl hi) g3
    have e1 : (ps.map fun (i, x) => (i, a.eval x)) = (ps.toList.map fun (i, x) => (i, a.eval x)).toArray := by apply Array.ext'; simp
    simp only [execOp, ho, e1, Sem.run_bind, g2, Result.andThen_ok, Sem.run_pure]
  · rename_i t n ps ho
    obtain ⟨vs, h1, h⟩ := bind_some' h
    obtain ⟨v, H', g1, g2⟩ := buildSliceE_sound (lo := lo) h ho
    exact ⟨v, H', g1, fun hi hlo he => g2 hi hlo (partsE_rel he h1)⟩
  · rename_i t x ho
    obtain ⟨v, h1, h⟩ := bind_some' h
    split at h
    · rename_i ad
      split at h
      · rename_i cs sz hl
        obtain ⟨v, g1, g2⟩ := loadE_sound h
        refine ⟨v, H, g1, fun {ρ w a} hi hlo he => ?_⟩
        have hx := opd_rel he h1
        generalize hex : a.eval x = x' at hx
        cases hx with
        | @ptr kb off sp hk =>
          obtain ⟨s, e1, e2⟩ := hi.rel.obj _ _ (look_mem hl)
          rw [hk] at e1
          cases e1
          obtain ⟨v', g2, g3⟩ := g2 e2
          exact Done.value (w' := w) (by simp [execOp, ho, hex, Instr.loadAt, Instr.sureAddr, g2]) (Next.refl hi) g3
      · cases h
    · cases h
  · rename_i t x y ho
    obtain ⟨p, h1, h⟩ := bind_some' h
    obtain ⟨v, h2, h⟩ := bind_some' h
    split at h
    · rename_i ad
      obtain ⟨H', g1, g2⟩ := storeE_sound h
      refine ⟨undef, H', g1, fun {ρ w a} hi hlo he => ?_⟩
      have hx := opd_rel he h1
      have hy := opd_rel he h2
      generalize hex : a.eval x = x' at hx
      cases hx with
      | @ptr kb off sp hk =>
        obtain ⟨w', g2, g3⟩ := g2 hi (.ptr hk) hy
        exact Done.skip (by simp [execOp, ho, hex, Instr.storeAt, Instr.sureAddr, g2]) g3
    · cases h
  · rename_i x ho
    obtain ⟨v, h1, h⟩ := bind_some' h
    obtain ⟨v, g1, g2⟩ := nilCheckE_sound (P := P) (lo := lo) (H := H) h ho
    exact ⟨v, H, g1, fun hi hlo he => g2 hi (opd_rel he h1)⟩
  · rename_i op t x y yt ho
    obtain ⟨u, h1, h⟩ := bind_some' h
    obtain ⟨v, h2, h⟩ := bind_some' h
    have rest : binE fi op u v (fun v => k v H) (eqAggE P op t u v (fun v => k v H) (eqNilE P op t u v (fun v => k v H) (calmOp P e H o k))) = some r →
        ∃ v, ∃ H', k v H' = some r ∧ ∀ {ρ : Map} {w : World} {a : Act}, Inv ρ H w → lo ≤ H.next → EnvRel ρ e a.tmps → Done P lo o a ρ H w v H' := by
      intro h
      rcases binE_sound (P := P) (t := t) (ox := x) (oy := y) hfi h with h | ⟨v, g1, g2, g3⟩
      · rcases eqAggE_sound (P := P) (ox := x) (oy := y) h with h | ⟨v, g1, g2, g3⟩
        · rcases eqNilE_sound (P := P) (ox := x) (oy := y) h with h | ⟨v, g1, g2, g3⟩
          · exact hcalm h
          · refine ⟨v, H, g1, fun {ρ w a} hi hlo he => Done.flat hi g2 ?_⟩
            simp only [execOp, ho]
            rw [Sem.run_bind, g3 (opd_rel he h1) (opd_rel he h2)]
            rfl
        · refine ⟨v, H, g1, fun {ρ w a} hi hlo he => Done.flat hi g2 ?_⟩
          simp only [execOp, ho]
          rw [Sem.run_bind, g3 (opd_rel he h1) (opd_rel he h2)]
          rfl
      · refine ⟨v, H, g1, fun {ρ w a} hi hlo he => Done.flat hi g2 ?_⟩
        simp only [execOp, ho]
        rw [Sem.run_bind, g3 (opd_rel he h1) (opd_rel he h2)]
        rfl
    rcases nanIf_some h with h | h
    · exact rest h
    · rcases nanBinE_sound (P := P) (lo := lo) (H := H) ho h with h | ⟨v, g1, g2⟩
      · exact rest h
      · exact ⟨v, H, g1, fun hi hlo he => g2 hi (opd_rel he h1) (opd_rel he h2)⟩
  · rename_i op t x ho
    obtain ⟨u, h1, h⟩ := bind_some' h
    rcases unE_sound (P := P) h with h | ⟨v, g1, g2, g3⟩
    · exact hcalm h
    · exact ⟨v, H, g1, fun {ρ w a} hi hlo he => Done.flat hi g2 (by simp [execOp, ho, g3 (opd_rel he h1)])⟩
  · rename_i s d x ho
    obtain ⟨u, h1, h⟩ := bind_some' h
    rcases convE_sound (P := P) hfi h with h | ⟨v, g1, g2, g3⟩
    · exact hcalm h
    · exact ⟨v, H, g1, fun {ρ w a} hi hlo he => Done.flat hi g2 (by simp [execOp, ho, g3 (opd_rel he h1)])⟩
  · rename_i t x ho
    obtain ⟨v, h1, h⟩ := bind_some' h
    obtain ⟨v, g1, g2⟩ := makeIfaceE_sound (lo := lo) (H := H) h ho
    exact ⟨v, H, g1, fun hi hlo he => g2 hi (opd_rel he h1)⟩
  · rename_i f xs ys ho
    obtain ⟨us, h1, h⟩ := bind_some' h
    obtain ⟨vs, h2, h⟩ := bind_some' h
    refine ⟨_, H, h, fun {ρ w a} hi hlo he => Done.value (w' := w) (v' := .func f ⟨xs.toList.map a.eval⟩ ⟨ys.toList.map a.eval⟩) ?_ (Next.refl hi) (.func f (opds_rel he h1) (opds_rel he h2))⟩
    have e1 : xs.map a.eval = ⟨xs.toList.map a.eval⟩ := by apply Array.ext'; simp
    have e2 : ys.map a.eval = ⟨ys.toList.map a.eval⟩ := by apply Array.ext'; simp
    simp [execOp, ho, Instr.makeFunc, e1, e2]
  · rename_i t l c ho
    obtain ⟨u, h1, h⟩ := bind_some' h
    obtain ⟨v, h2, h⟩ := bind_some' h
    obtain ⟨v, H', g1, g2⟩ := makeSliceE_sound (lo := lo) h ho
    exact ⟨v, H', g1, fun hi hlo he => g2 hi hlo (opd_rel he h1) (opd_rel he h2)⟩
  · rename_i t x l hh ho
    obtain ⟨v, h1, h⟩ := bind_some' h
    obtain ⟨l', h2, h⟩ := bind_some' h
    obtain ⟨h', h3, h⟩ := bind_some' h
    obtain ⟨v, H', g1, g2⟩ := sliceE_sound (lo := lo) (H := H) h ho
    exact ⟨v, H', g1, fun hi hlo he => g2 hi (opd_rel he h1) (optE_rel he h2) (optE_rel he h3)⟩
  · rename_i s x f ho
    obtain ⟨v, h1, h⟩ := bind_some' h
    obtain ⟨v, g1, g2⟩ := fieldAddrE_sound (lo := lo) (H := H) h ho
    exact ⟨v, H, g1, fun hi hlo he => g2 hi (opd_rel he h1)⟩
  · rename_i t x f ho
    obtain ⟨v, h1, h⟩ := bind_some' h
    obtain ⟨v, g1, g2⟩ := fieldE_sound (lo := lo) (H := H) h ho
    exact ⟨v, H, g1, fun hi hlo he => g2 hi (opd_rel he h1)⟩
  · rename_i t x i ho
    obtain ⟨v, h1, h⟩ := bind_some' h
    obtain ⟨u, h2, h⟩ := bind_some' h
    obtain ⟨v, g1, g2⟩ := indexAddrE_sound (lo := lo) (H := H) h ho
    exact ⟨v, H, g1, fun hi hlo he => g2 hi (opd_rel he h1) (opd_rel he h2)⟩
  · rename_i t x i ho
    obtain ⟨v, h1, h⟩ := bind_some' h
    obtain ⟨u, h2, h⟩ := bind_some' h
    split at h
    · exact hcalm h
    · obtain ⟨v, g1, g2⟩ := indexE_sound (lo := lo) (H := H) h ho
      exact ⟨v, H, g1, fun hi hlo he => g2 hi (opd_rel he h1) (opd_rel he h2)⟩
  · rename_i x xt t c ho
    obtain ⟨v, h1, h⟩ := bind_some' h
    obtain ⟨v, g1, g2⟩ := assertE_sound (lo := lo) (H := H) h ho
    exact ⟨v, H, g1, fun hi hlo he => g2 hi (opd_rel he h1)⟩
  · rename_i x i ho
    obtain ⟨v, h1, h⟩ := bind_some' h
    obtain ⟨v, g1, g2⟩ := extractE_sound (P := P) (lo := lo) (H := H) h ho
    exact ⟨v, H, g1, fun hi hlo he => g2 hi (opd_rel he h1)⟩
  · rename_i t hh ho
    obtain ⟨v, h1, h⟩ := bind_some' h
    obtain ⟨v, H', g1, g2⟩ := mapMakeE_sound (lo := lo) h ho
    exact ⟨v, H', g1, fun hi hlo he => g2 hi hlo (optE_rel he h1)⟩
  · rename_i t x i ok ho
    obtain ⟨m, h1, h⟩ := bind_some' h
    obtain ⟨u, h2, h⟩ := bind_some' h
    obtain ⟨v, g1, g2⟩ := mapGetE_sound (lo := lo) h ho
    exact ⟨v, H, g1, fun hi hlo he => g2 hi (opd_rel he h1) (opd_rel he h2)⟩
  · rename_i t x i y ho
    obtain ⟨m, h1, h⟩ := bind_some' h
    obtain ⟨u, h2, h⟩ := bind_some' h
    obtain ⟨v, h3, h⟩ := bind_some' h
    obtain ⟨H', g1, g2⟩ := mapPutE_sound h (.inl ho)
    exact ⟨undef, H', g1, fun hi hlo he => g2 hi (opd_rel he h1) (opd_rel he h2) (opd_rel he h3)⟩
  · rename_i t x i y ho
    obtain ⟨m, h1, h⟩ := bind_some' h
    obtain ⟨u, h2, h⟩ := bind_some' h
    obtain ⟨v, h3, h⟩ := bind_some' h
    obtain ⟨H', g1, g2⟩ := mapPutE_sound h (.inr ho)
    exact ⟨undef, H', g1, fun hi hlo he => g2 hi (opd_rel he h1) (opd_rel he h2) (opd_rel he h3)⟩
  · rename_i xs ts ho
    obtain ⟨vs, h1, h⟩ := bind_some' h
    split at h
    · rename_i s x
      obtain ⟨v, H', g1, g2⟩ := appendX_sound (lo := lo) h
      refine ⟨v, H', g1, fun {ρ w a} hi hlo he => ?_⟩
      have hr := opds_rel he h1
      obtain ⟨cs, hrun⟩ := run_call_builtin (P := P) (a := a) (w := w) ho rfl
      have e1 : xs.map a.eval = ⟨xs.toList.map a.eval⟩ := by apply Array.ext'; simp
      generalize xs.toList.map a.eval = l at *
      cases hr with
      | cons r1 r2 =>
        cases r2 with
        | cons r2 r3 =>
          cases r3
          obtain ⟨ρ', w', v', q1, q2, q3⟩ := g2 (ty := o.type) hi hlo r1 r2
          refine Done.value ?_ q2 q3
          rw [hrun]
          simp only [e1, builtin, Sem.run_bind]
          rw [show (⟨ts.toList⟩ : Array TypeId) = ts from rfl] at q1
          rw [q1]
          rfl
    · cases h
  · rename_i xs ts ho
    obtain ⟨vs, h1, h⟩ := bind_some' h
    split at h
    · rename_i s x
      obtain ⟨v, H', g1, g2⟩ := copyE_sound (lo := lo) h
      refine ⟨v, H', g1, fun {ρ w a} hi hlo he => ?_⟩
      have hr := opds_rel he h1
      obtain ⟨cs, hrun⟩ := run_call_builtin (P := P) (a := a) (w := w) ho rfl
      have e1 : xs.map a.eval = ⟨xs.toList.map a.eval⟩ := by apply Array.ext'; simp
      generalize xs.toList.map a.eval = l at *
      cases hr with
      | cons r1 r2 =>
        cases r2 with
        | cons r2 r3 =>
          cases r3
          obtain ⟨ρ', w', v', q1, q2, q3⟩ := g2 (ty := o.type) hi hlo r1 r2
          refine Done.value ?_ q2 q3
          rw [hrun]
          simp only [e1, builtin, Sem.run_bind]
          rw [show (⟨ts.toList⟩ : Array TypeId) = ts from rfl] at q1
          rw [q1]
          rfl
    · cases h
  · rename_i b xs ts _n1 _n2 ho
    obtain ⟨vs, h1, h⟩ := bind_some' h
    have rest : builtinE P b ts vs (fun v => k v H) (calmOp P e H o k) = some r →
        ∃ v, ∃ H', k v H' = some r ∧ ∀ {ρ : Map} {w : World} {a : Act}, Inv ρ H w → lo ≤ H.next → EnvRel ρ e a.tmps → Done P lo o a ρ H w v H' := by
      intro h
      rcases builtinE_sound (P := P) (ty := o.type) h with h | ⟨v, g1, g2, g3⟩
      · exact hcalm h
      · refine ⟨v, H, g1, fun {ρ w a} hi hlo he => Done.flat hi g2 ?_⟩
        obtain ⟨cs, hrun⟩ := run_call_builtin (P := P) (a := a) (w := w) ho rfl
        rw [hrun]
        have e1 : xs.map a.eval = ⟨xs.toList.map a.eval⟩ := by apply Array.ext'; simp
        rw [e1]
        exact g3 (opds_rel he h1)
    rcases nanIf_some h with h | h
    · exact rest h
    · rcases nanBuiltinE_sound (P := P) (ts := ts) (ty := o.type) h with h | ⟨v, g1, g2⟩
      · exact rest h
      · refine ⟨v, H, g1, fun {ρ w a} hi hlo he => ?_⟩
        obtain ⟨cs, hrun⟩ := run_call_builtin (P := P) (a := a) (w := w) ho rfl
        obtain ⟨v', k1, k2⟩ := g2 (w := w) (cs := cs) (opds_rel he h1)
        have e1 : xs.map a.eval = ⟨xs.toList.map a.eval⟩ := by apply Array.ext'; simp
        rw [← e1] at k1
        exact Done.value (w' := w) (by rw [hrun]; exact k1) (Next.refl hi) k2
  · cases h

end Go.Vm
