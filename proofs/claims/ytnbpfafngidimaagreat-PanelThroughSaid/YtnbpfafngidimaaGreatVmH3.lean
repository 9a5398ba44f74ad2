/- What append brings comes of the abstract memory; no conditions. What copy brings comes of the abstract memory; no conditions. What is not nil is told apart from nil; no conditions. What comes of floats that are no numbers is none; no conditions. -/
import Derived.Test.YtnbpfafngidimaaGreatVmG
import Derived.ArgAppend
namespace Go.Vm
set_option linter.unusedVariables false
set_option linter.unusedSimpArgs false

/-! ### append -/
def newsE (H : AH) (size : Nat) (ad : Addr) (m : Nat) : Option (List Value) :=
  match look ad.block H.objs with
  | some (.cells cs _) => bif ad.spot.isNone && Nat.beq ((cs.drop ad.off).take (m * size)).length (m * size) then some ((cs.drop ad.off).take (m * size)) else none
  | _ => none

theorem newsE_sound {H : AH} {size m : Nat} {ad : Addr} {l : List Value} (h : newsE H size ad m = some l) : l.length = m * size ∧
    ∀ {ρ : Map} {w : World} {s : Spot}, Inv ρ H w → ρ ad.block = some s → ∃ l', VRels ρ l l' ∧ l'.length = m * size ∧ ∀ j v, l'[j]? = some v → w.cell? ((⟨s.b, s.d + ad.off, none⟩ : Addr).add j) = some v := by
  unfold newsE at h
  split at h
  · rename_i cs sz hl
    cases hc : (ad.spot.isNone && Nat.beq ((cs.drop ad.off).take (m * size)).length (m * size)) with
    | false => rw [hc] at h; cases h
    | true =>
      rw [hc] at h
      cases h
      simp only [Bool.and_eq_true, Nat.beq_eq] at hc
      refine ⟨hc.2, fun {ρ w s} hi hs => ?_⟩
      obtain ⟨s2, e1, e2⟩ := hi.rel.obj ad.block _ (look_mem hl)
      rw [hs] at e1
      cases e1
      obtain ⟨arr, ty, cs', ⟨⟨fr, hb⟩, _⟩, hr, hcc, _, _⟩ := e2
      have hr2 := (hr.drop ad.off).take (m * size)
      refine ⟨(cs'.drop ad.off).take (m * size), hr2, by rw [hr2.length]; exact hc.2, fun j v hv => ?_⟩
      rw [List.getElem?_take] at hv
      split at hv
      · rw [List.getElem?_drop] at hv
        have := hcc _ v hv
        rw [add_none]
        simp [World.cell?, hb, Nat.add_assoc, this]
      · cases hv
  · cases h

def appendE {R : Type} (P : Program) (lo : Nat) (H : AH) (ts : List TypeId) (s x : Value) (k : Value → AH → Option R) : Option R :=
  match ts with
  | [t, t'] => bif Nat.beq t t' then
    match P.underlying t with
    | some (.slice e) =>
      match P.info? e with
      | some i =>
        match i.zero with
        | some z =>
          bif Nat.blt 0 i.size && Nat.beq z.cells.size i.size then
            match x with
            | .slice (some ad) m _ =>
              (newsE H i.size ad m).bind fun news =>
                bif Nat.blt 0 m && allOne news then
                  match s with
                  | .slice none 0 0 =>
                    bif Nat.ble (m * i.bytes) 140737488355328 && Nat.ble m 1099511627776 then k (.slice (some ⟨H.next, 0, none⟩) m m) (H.push (.cells news i.size)) else none
                  | .slice (some sd) n c =>
                    match look sd.block H.objs with
                    | some (.cells cs sz) =>
                      (newsE H i.size sd n).bind fun olds =>
                        bif Nat.beq n c && Nat.ble ((n + m) * i.bytes) 140737488355328 && Nat.ble (n + m) 1099511627776 then
                          bif Nat.beq sz 0 then k (.slice (some ⟨H.next, 0, none⟩) (n + m) (n + m)) (H.push (.cells (olds ++ news) i.size))
                          else bif Nat.beq sz i.size && Nat.beq sd.off 0 && Nat.beq cs.length (n * i.size) && Nat.ble lo sd.block then
                            k (.slice (some ⟨H.next, 0, none⟩) (n + m) (n + m)) ⟨H.next + 1, (H.next, .cells (olds ++ news) i.size) :: drop sd.block H.objs⟩
                          else none
                        else none
                    | _ => none
                  | _ => none
                else none
            | _ => none
          else none
        | none => none
      | none => none
    | _ => none
    else none
  | _ => none

/-- what has grown -/
theorem grown {P : Program} {lo : Nat} {ρ : Map} {H : AH} {w : World} (hi : Inv ρ H w) (hlo : lo ≤ H.next) {l l' : List Value} {size need cap : Nat} (hl : VRels ρ l l') (hll : l'.length = need * size) (hs : 0 < size) (hc : need ≤ cap)
    {z : Array Value} (hz : z.size = size) {arr : Array Value} (harr : arr.toList = l' ++ (Builtin.zeroCells z (cap - need)).toList) (e : TypeId) :
    Next lo ρ H w (upd ρ H.next ⟨w.heap.size, 0, cap - need⟩) (H.push (.cells l size)) (w.drew.alloc (.cells arr e)) ∧
      VRel (upd ρ H.next ⟨w.heap.size, 0, cap - need⟩) (.slice (some ⟨H.next, 0, none⟩) need need) (.slice (some ⟨w.heap.size, 0, none⟩) need cap) := by
  have hn : Next lo ρ H w ρ H w.drew := Next.draw hi
  have hlen := hl.length
  have hsz : arr.size = l'.length + (cap - need) * size := by
    have := congrArg List.length harr
    rw [List.length_append] at this
    simp only [Array.length_toList, size_zeroCells, hz] at this
    exact this
  constructor
  · refine hn.trans (Next.alloc (w := w.drew) hn.inv hlo _ _ (cap - need) ⟨arr, e, l', ?_, hl.mono (upd_ext hi _), fun i v hv => ?_, ?_, fun h => absurd h (by omega)⟩)
    · refine Lies.fresh ?_ _ _
      show (w.heap.push _)[w.heap.size]? = _
      simp
    · have : arr.toList[i]? = some v := by
        rw [harr, List.getElem?_append_left (List.getElem?_eq_some_iff.1 hv).1]; exact hv
      simpa using this
    · simp only [Nat.zero_add]
      omega
  · have := VRel.slice (ρ := upd ρ H.next ⟨w.heap.size, 0, cap - need⟩) (k := H.next) (o := 0) (n := need) (c := need) (s := ⟨w.heap.size, 0, cap - need⟩) (upd_same _ _ _)
    simp only [Nat.zero_add] at this
    rw [show need + (cap - need) = cap by omega] at this
    exact this

theorem appendE_sound {R : Type} {P : Program} {lo : Nat} {H : AH} {ts : List TypeId} {s x : Value} {k : Value → AH → Option R} {r : R} (h : appendE P lo H ts s x k = some r) :
    ∃ v H', k v H' = some r ∧ ∀ {ρ : Map} {w : World} {s' x' : Value} {ty : TypeId}, Inv ρ H w → lo ≤ H.next → VRel ρ s s' → VRel ρ x x' →
      ∃ ρ' w' v', (Builtin.append_ ⟨ts⟩ ty #[s', x']).run P w = .ok v' w' ∧ Next lo ρ H w ρ' H' w' ∧ VRel ρ' v v' := by
  unfold appendE at h
  split at h
  case h_2 => cases h
  rename_i t t'
  cases htt : Nat.beq t t' with
  | false => rw [htt] at h; cases h
  | true =>
  rw [htt] at h
  have := Nat.eq_of_beq_eq_true htt
  subst this
  simp only [cond_true] at h
  split at h
  case h_2 => cases h
  rename_i e hu
  split at h
  case h_2 => cases h
  rename_i i hi
  split at h
  case h_2 => cases h
  rename_i z hz
  cases hsz : (Nat.blt 0 i.size && Nat.beq z.cells.size i.size) with
  | false => rw [hsz] at h; cases h
  | true =>
  rw [hsz] at h
  simp only [Bool.and_eq_true, Nat.blt_eq, Nat.beq_eq] at hsz
  simp only [cond_true] at h
  split at h
  case h_2 => cases h
  rename_i ad m cx
  obtain ⟨news, hnews, h⟩ := bind_some' h
  obtain ⟨nl, nsound⟩ := newsE_sound hnews
  cases hm : (Nat.blt 0 m && allOne news) with
  | false => rw [hm] at h; cases h
  | true =>
  rw [hm] at h
  simp only [Bool.and_eq_true, Nat.blt_eq] at hm
  simp only [cond_true] at h
  split at h
  · cases hb : (Nat.ble (m * i.bytes) 140737488355328 && Nat.ble m 1099511627776) with
    | false => rw [hb] at h; cases h
    | true =>
      rw [hb] at h
      simp only [Bool.and_eq_true, Nat.ble_eq] at hb
      refine ⟨_, _, h, fun {ρ w s' x' ty} hinv hlo hs hx => ?_⟩
      cases hs
      cases hx with
      | @slice kb off _ _ sp hsp =>
        obtain ⟨news', g1, g2, g3⟩ := nsound hinv hsp
        have hrun := run_append_nil (P := P) (w := w) t ty e i z hu hi hz ⟨sp.b, sp.d + off, none⟩ m (cx + sp.x) news' g2 g3 (by omega) (by omega) (by omega)
        have hge := grownCap_ge w m 0 e
        obtain ⟨q1, q2⟩ := grown (P := P) (lo := lo) hinv hlo g1 g2 hsz.1 hge hsz.2 (arr := news'.toArray ++ Builtin.zeroCells z.cells (grownCap w m 0 e - m)) (by simp) e
        exact ⟨_, _, _, hrun, q1, q2⟩
  · rename_i sd n c _hh
    split at h
    case h_2 => cases h
    rename_i cs sz hl
    obtain ⟨olds, holds, h2⟩ := bind_some' h
    clear h
    obtain ⟨ol, osound⟩ := newsE_sound holds
    cases hb : (Nat.beq n c && Nat.ble ((n + m) * i.bytes) 140737488355328 && Nat.ble (n + m) 1099511627776) with
    | false => rw [hb] at h2; cases h2
    | true =>
      rw [hb] at h2
      simp only [Bool.and_eq_true, Nat.ble_eq, Nat.beq_eq] at hb
      obtain ⟨⟨rfl, b1⟩, b2⟩ := hb
      simp only [cond_true] at h2
      have growRun : ∀ {ρ : Map} {w : World} {ty : TypeId} {news' olds' : List Value} {bs bx : Addr} {cap cx' : Nat}, olds'.length = n * i.size → (∀ j v, olds'[j]? = some v → w.cell? (bs.add j) = some v) →
          news'.length = m * i.size → (∀ j v, news'[j]? = some v → w.cell? (bx.add j) = some v) → cap < n + m →
          (Builtin.append_ ⟨[t, t]⟩ ty #[.slice (some bs) n cap, .slice (some bx) m cx']).run P w =
            .ok (.slice (some ⟨w.heap.size, 0, none⟩) (n + m) (grownCap w (n + m) cap e)) (w.drew.alloc (.cells (olds'.toArray ++ news'.toArray ++ Builtin.zeroCells z.cells (grownCap w (n + m) cap e - (n + m))) e)) :=
        fun {ρ w ty news' olds' bs bx cap cx'} h1 h2 h3 h4 h5 => run_append_grow (P := P) w t ty e i z hu hi hz bs n cap olds' h1 h2 bx m cx' news' h3 h4 h5 (by omega) (growslice_fits h5 b1)
      cases hz0 : Nat.beq sz 0 with
      | true =>
        rw [hz0] at h2
        have hz0' := Nat.eq_of_beq_eq_true hz0
        refine ⟨_, _, h2, fun {ρ w s' x' ty} hinv hlo hs hx => ?_⟩
        cases hs with
        | @slice ks os _ _ ss hss =>
        cases hx with
        | @slice kb off _ _ sp hsp =>
          obtain ⟨news', g1, g2, g3⟩ := nsound hinv hsp
          obtain ⟨olds', k1, k2, k3⟩ := osound hinv hss
          obtain ⟨s2, e1, e2⟩ := hinv.rel.obj ks _ (look_mem hl)
          rw [hss] at e1
          cases e1
          obtain ⟨_, _, _, _, _, _, _, hx0⟩ := e2
          have hx0' := hx0 hz0'
          have hrun := growRun (ρ := ρ) (w := w) (ty := ty) (cap := n + ss.x) (cx' := cx + sp.x) k2 k3 g2 g3 (by omega)
          have hge := grownCap_ge w (n + m) (n + ss.x) e
          obtain ⟨q1, q2⟩ := grown (P := P) (lo := lo) hinv hlo (k1.append g1) (need := n + m) (size := i.size) (by rw [List.length_append, k2, g2, Nat.add_mul]) hsz.1 hge hsz.2
            (arr := olds'.toArray ++ news'.toArray ++ Builtin.zeroCells z.cells (grownCap w (n + m) (n + ss.x) e - (n + m))) (by simp) e
          exact ⟨_, _, _, hrun, q1, q2⟩
      | false =>
        rw [hz0] at h2
        simp only [cond_false] at h2
        cases hq : (Nat.beq sz i.size && Nat.beq sd.off 0 && Nat.beq cs.length (n * i.size) && Nat.ble lo sd.block) with
        | false => rw [hq] at h2; cases h2
        | true =>
          rw [hq] at h2
          simp only [Bool.and_eq_true, Nat.ble_eq, Nat.beq_eq] at hq
          obtain ⟨⟨⟨q1, q2⟩, q3⟩, q4⟩ := hq
          refine ⟨_, _, h2, fun {ρ w s' x' ty} hinv hlo hs hx => ?_⟩
          cases hs with
          | @slice ks os _ _ ss hss =>
          cases hx with
          | @slice kb off _ _ sp hsp =>
            simp only at q2 q4
            subst q2
            obtain ⟨news', g1, g2, g3⟩ := nsound hinv hsp
            obtain ⟨olds', k1, k2, k3⟩ := osound hinv hss
            have hm0 := look_mem hl
            obtain ⟨s2, e1, e2⟩ := hinv.rel.obj ks _ hm0
            rw [hss] at e1
            cases e1
            obtain ⟨arr, tyo, cs', hlies, ar, ac, aext, _⟩ := e2
            obtain ⟨⟨fr, ab⟩, hz0⟩ := id hlies
            have arl := ar.length
            have keepS : ∀ k o, k < lo → (k, o) ∈ H.objs → (k, o) ∈ drop ks H.objs := fun k o hk hmm => mem_drop.2 ⟨hmm, by simp only; omega⟩
            have freeS : ∀ k o s, (k, o) ∈ drop ks H.objs → ρ k = some s → s.b ≠ ss.b := fun k o s hmm hs hb => by
              obtain ⟨h1, h2⟩ := mem_drop.1 hmm
              exact h2 (hinv.rel.inj k o ks _ s ss h1 hm0 hs hss hb)
            by_cases hroom : m ≤ ss.x
            · have hms : m * i.size ≤ ss.x * i.size := Nat.mul_le_mul_right _ hroom
              have hcellO : ∀ (j : Nat) v, olds'[j]? = some v → arr[ss.d + j]? = some v := fun j v hv => by
                have := k3 j v hv
                rw [add_none] at this
                simpa [World.cell?, ab] using this
              have hlen : arr.size ≥ ss.d + n * i.size + ss.x * i.size := by rw [q1] at aext; omega
              have hone := allOne_rel g1 hm.2
              have hrun := run_append_room_cells (P := P) w t ty e i hu hi ss.b (ss.d + 0) n (n + ss.x) ⟨sp.b, sp.d + off, none⟩ m (cx + sp.x) news' g2 g3 hone (by omega)
                (fun j hj => by
                  have : ss.d + 0 + n * i.size + j < arr.size := by omega
                  simp only [Nat.add_zero] at this
                  simp [World.cell?, ab, this]) (fun j hj => by
                  rw [show ss.d + 0 + n * i.size + j = ss.d + (n * i.size + j) by omega]
                  exact hz0 _ (by rw [q1]; omega))
              obtain ⟨w1, w2, w3, w4, w5, w6⟩ := setCells_heap ss.b news' (ss.d + 0 + n * i.size) w arr tyo fr ab
              refine ⟨upd ρ H.next ⟨ss.b, ss.d, ss.x - m⟩, _, _, hrun, ?_, ?_⟩
              · refine Next.add hinv hlo _ ⟨ss.b, ss.d, ss.x - m⟩ (drop ks H.objs) (fun y hy => (mem_drop.1 hy).1) keepS (Nat.le_of_eq w3.symm) w4 w5 w6 (fun b _ hb => w2 b hb) (.inr ⟨ks, _, ss, q4, hm0, hss, rfl⟩) freeS
                  ⟨_, tyo, olds' ++ news', hlies.put ab w1 rfl (by
                      rw [List.length_append, ol, nl, q1]
                      have : (ss.x - m) * i.size = ss.x * i.size - m * i.size := Nat.sub_mul _ _ _
                      simp only
                      omega), (k1.append g1).mono (upd_ext hinv _), fun j v hv => ?_, ?_, fun h => absurd h (by omega)⟩
                · rw [foldl_set_get]
                  rcases Nat.lt_or_ge j (n * i.size) with hj | hj
                  · rw [if_neg (by simp only; omega)]
                    rw [List.getElem?_append_left (by omega)] at hv
                    exact hcellO j v hv
                  · rw [List.getElem?_append_right (by omega), k2] at hv
                    have hjl := (List.getElem?_eq_some_iff.1 hv).1
                    rw [if_pos (by simp only; omega)]
                    simp only
                    rw [show ss.d + j - (ss.d + 0 + n * i.size) = j - n * i.size by omega]
                    exact hv
                · rw [foldl_set_size, List.length_append, ol, nl]
                  have : (ss.x - m) * i.size = ss.x * i.size - m * i.size := Nat.sub_mul _ _ _
                  simp only
                  omega
              · have := VRel.slice (ρ := upd ρ H.next ⟨ss.b, ss.d, ss.x - m⟩) (k := H.next) (o := 0) (n := n + m) (c := n + m) (s := ⟨ss.b, ss.d, ss.x - m⟩) (upd_same _ _ _)
                simp only at this
                rw [show n + m + (ss.x - m) = n + ss.x by omega] at this
                exact this
            · have hrun := growRun (ρ := ρ) (w := w) (ty := ty) (cap := n + ss.x) (cx' := cx + sp.x) k2 k3 g2 g3 (by omega)
              have hge := grownCap_ge w (n + m) (n + ss.x) e
              obtain ⟨r1, r2⟩ := grown (P := P) (lo := lo) hinv hlo (k1.append g1) (need := n + m) (size := i.size) (by rw [List.length_append, k2, g2, Nat.add_mul]) hsz.1 hge hsz.2
                (arr := olds'.toArray ++ news'.toArray ++ Builtin.zeroCells z.cells (grownCap w (n + m) (n + ss.x) e - (n + m))) (by simp) e
              refine ⟨_, _, _, hrun, ?_, r2⟩
              exact
              { r1 with
                inv := ⟨r1.inv.dom, fun k o hmm => r1.inv.wf k o (by
                    rcases List.mem_cons.1 hmm with g | g
                    · exact List.mem_cons.2 (.inl g)
                    · exact List.mem_cons.2 (.inr (mem_drop.1 g).1)),
                  fun k o o' h1 h2 => r1.inv.one k o o' (by
                    rcases List.mem_cons.1 h1 with g | g
                    · exact List.mem_cons.2 (.inl g)
                    · exact List.mem_cons.2 (.inr (mem_drop.1 g).1)) (by
                    rcases List.mem_cons.1 h2 with g | g
                    · exact List.mem_cons.2 (.inl g)
                    · exact List.mem_cons.2 (.inr (mem_drop.1 g).1)),
                  r1.inv.rel.sub fun y hy => by
                    rcases List.mem_cons.1 hy with g | g
                    · exact List.mem_cons.2 (.inl g)
                    · exact List.mem_cons.2 (.inr (mem_drop.1 g).1)⟩
                own := fun k o s hk hmm => r1.own k o s hk (by
                    rcases List.mem_cons.1 hmm with g | g
                    · exact List.mem_cons.2 (.inl g)
                    · exact List.mem_cons.2 (.inr (mem_drop.1 g).1))
                old := fun k o hk => by
                  rw [← r1.old k o hk]
                  simp only [AH.push, List.mem_cons, mem_drop]
                  constructor
                  · rintro (g | g)
                    · exact .inl g
                    · exact .inr g.1
                  · rintro (g | g)
                    · exact .inl g
                    · exact .inr ⟨g, by omega⟩ }
  · cases h
end Go.Vm
namespace Go.Vm
set_option linter.unusedVariables false
set_option linter.unusedSimpArgs false

/-! ### copy, of elements of one cell -/
def copyE {R : Type} (P : Program) (lo : Nat) (H : AH) (ts : List TypeId) (d s : Value) (k : Value → AH → Option R) : Option R :=
  match ts with
  | [dT, sT] =>
    match P.underlying dT with
    | some (.slice e) =>
      match P.info? e with
      | some i =>
        bif Nat.beq i.size 1 then
          match d, s with
          | .slice (some ad) dl _, .slice (some sa) sl _ =>
            (newsE H 1 sa (Nat.min sl dl)).bind fun news =>
              match look ad.block H.objs with
              | some (.cells cs sz) =>
                bif allOne news && Nat.ble lo ad.block && ad.spot.isNone && Nat.ble (ad.off + news.length) cs.length then
                  k (.int .i64 (news.length : Int)) (H.put ad.block (.cells (splice cs ad.off news) sz))
                else none
              | _ => none
          | _, _ => none
        else none
      | none => none
    | _ => none
  | _ => none

theorem copyE_sound {R : Type} {P : Program} {lo : Nat} {H : AH} {ts : List TypeId} {d s : Value} {k : Value → AH → Option R} {r : R} (h : copyE P lo H ts d s k = some r) :
    ∃ v H', k v H' = some r ∧ ∀ {ρ : Map} {w : World} {d' s' : Value} {ty : TypeId}, Inv ρ H w → lo ≤ H.next → VRel ρ d d' → VRel ρ s s' →
      ∃ ρ' w' v', (Builtin.copy_ ⟨ts⟩ ty #[d', s']).run P w = .ok v' w' ∧ Next lo ρ H w ρ' H' w' ∧ VRel ρ' v v' := by
  unfold copyE at h
  split at h
  case h_2 => cases h
  rename_i dT sT
  split at h
  case h_2 => cases h
  rename_i e hu
  split at h
  case h_2 => cases h
  rename_i i hi
  cases hsz : Nat.beq i.size 1 with
  | false => rw [hsz] at h; cases h
  | true =>
  rw [hsz] at h
  have hsz' := Nat.eq_of_beq_eq_true hsz
  simp only [cond_true] at h
  split at h
  case h_2 => cases h
  rename_i ad dl dc sa sl sc
  obtain ⟨news, hnews, h2⟩ := bind_some' h
  clear h
  obtain ⟨nl, nsound⟩ := newsE_sound hnews
  split at h2
  case h_2 => cases h2
  rename_i cs sz hl
  cases hb : (allOne news && Nat.ble lo ad.block && ad.spot.isNone && Nat.ble (ad.off + news.length) cs.length) with
  | false => rw [hb] at h2; cases h2
  | true =>
    rw [hb] at h2
    simp only [Bool.and_eq_true, Nat.ble_eq] at hb
    obtain ⟨⟨⟨b1, b2⟩, b3⟩, b4⟩ := hb
    refine ⟨_, _, h2, fun {ρ w d' s' ty} hinv hlo hd hs => ?_⟩
    cases hd with
    | @slice ks os _ _ ss hss =>
    cases hs with
    | @slice kb off _ _ sp hsp =>
      simp only at b2 b4
      obtain ⟨news', g1, g2, g3⟩ := nsound hinv hsp
      have hm0 := look_mem hl
      obtain ⟨s2, e1, e2⟩ := hinv.rel.obj ks _ hm0
      rw [hss] at e1
      cases e1
      obtain ⟨arr, tyo, cs', hlies, ar, ac, aext, ax0⟩ := e2
      obtain ⟨⟨fr, ab⟩, hz0⟩ := id hlies
      have arl := ar.length
      have hone := allOne_rel g1 b1
      have nl' := g1.length
      have hcell : ∀ j, j < cs.length → ∃ u, arr[ss.d + j]? = some u := fun j hj => by
        have hlt : j < cs'.length := by omega
        exact ⟨cs'[j], ac j _ (by simp [hlt])⟩
      have hrun := run_copy_cells (P := P) w dT sT ty e ss.b (ss.d + os) dl (dc + ss.x) ⟨sp.b, sp.d + off, none⟩ sl (sc + sp.x) news' hu (by rw [hi]; simp [hsz']) (by rw [g2]; simp) g3
        (fun j hj => by
          obtain ⟨u, hu'⟩ := hcell (os + j) (by omega)
          rw [show ss.d + os + j = ss.d + (os + j) by omega]
          simp [World.cell?, ab, hu']) (fun j hj => by
          rw [show ss.d + os + j = ss.d + (os + j) by omega]
          exact hz0 _ (by omega)) hone
      obtain ⟨w1, w2, w3, w4, w5, w6⟩ := setCells_heap ss.b news' (ss.d + os) w arr tyo fr ab
      refine ⟨ρ, _, _, hrun, Next.write hinv hm0 b2 hss _ w3 w4 w5 w6 w2 ⟨_, tyo, splice cs' os news', hlies.put ab w1 rfl (by rw [splice_length (by omega)]; exact Nat.le_refl _), ar.splice g1 os, fun j v hv => ?_, ?_, ax0⟩, ?_⟩
      · rw [splice_get (by omega)] at hv
        rw [foldl_set_get]
        split at hv
        · rename_i hin
          have : ss.d + j < arr.size := by
            obtain ⟨u', hu'⟩ := hcell j (by omega)
            exact (Array.getElem?_eq_some_iff.1 hu').1
          rw [if_pos (by omega), show ss.d + j - (ss.d + os) = j - os by omega]
          exact hv
        · rename_i hout
          rw [if_neg (by omega)]
          exact ac j v hv
      · rw [splice_length (by omega), foldl_set_size]
        exact aext
      · rw [nl']
        exact .int _ _
end Go.Vm
namespace Go.Vm
set_option linter.unusedVariables false
set_option linter.unusedSimpArgs false

/-! ### What is not nil compared with nil -/
def nilDiff (P : Program) (t : TypeId) (x y : Value) : Bool :=
  match P.underlying t, x, y with
  | some (.slice _), .slice (some _) _ _, .slice none _ _ => true
  | some (.slice _), .slice none _ _, .slice (some _) _ _ => true
  | some (.map _ _), .map (some _), .map none => true
  | some (.map _ _), .map none, .map (some _) => true
  | some (.pointer _), .pointer (some _), .pointer none => true
  | some (.pointer _), .pointer none, .pointer (some _) => true
  | some (.func _ _ _), .func _ _ _, .nilFunc => true
  | some (.func _ _ _), .nilFunc, .func _ _ _ => true
  | some (.interface _), .iface _ _, .nilIface => true
  | some (.interface _), .nilIface, .iface _ _ => true
  | _, _, _ => false

def eqNilE {R : Type} (P : Program) (op : BinOp) (t : TypeId) (x y : Value) (k : Value → Option R) (other : Option R) : Option R :=
  bif nilDiff P t x y then
    match op with
    | .eql => k (.bool false)
    | .neq => k (.bool true)
    | _ => other
  else other

theorem equalIn_false {P : Program} {t : TypeId} {x y : Value} (h : nilDiff P t x y = true) {ρ : Map} {w : World} {x' y' : Value} (hx : VRel ρ x x') (hy : VRel ρ y y') (d : Nat) :
    (Op.equalIn (d + 1) t x' y').run P w = .ok false w := by
  unfold nilDiff at h
  split at h
  all_goals first
    | cases h; done
    | (rename_i hu
       cases hx; cases hy
       simp [Op.equalIn, run_underlying hu])

theorem equal_false {P : Program} {t : TypeId} {x y : Value} (h : nilDiff P t x y = true) {ρ : Map} {w : World} {x' y' : Value} (hx : VRel ρ x x') (hy : VRel ρ y y') :
    (Op.equal t x' y').run P w = .ok false w := equalIn_false h hx hy 9999

theorem nilDiff_run {P : Program} {t : TypeId} {x y : Value} (h : nilDiff P t x y = true) {op : BinOp} {ox oy : Operand} {ρ : Map} {w : World} {x' y' : Value} (hx : VRel ρ x x') (hy : VRel ρ y y') :
    (op = .eql → ((do eqGuard op t ox oy x' y'; binOp op t x' y') : Sem Value).run P w = .ok (.bool false) w) ∧
    (op = .neq → ((do eqGuard op t ox oy x' y'; binOp op t x' y') : Sem Value).run P w = .ok (.bool true) w) := by
  have he := equal_false (w := w) h hx hy
  unfold nilDiff at h
  split at h
  all_goals first
    | cases h; done
    | (rename_i hu
       cases hx; cases hy
       constructor
       · rintro rfl
         rw [Sem.run_bind, show (eqGuard .eql t ox oy _ _).run P w = .ok () w from rfl, Result.andThen_ok]
         simp only [binOp]
         rw [Sem.run_bind, he]
         rfl
       · rintro rfl
         rw [Sem.run_bind, show (eqGuard .neq t ox oy _ _).run P w = .ok () w from rfl, Result.andThen_ok]
         simp only [binOp]
         rw [Sem.run_bind, he]
         rfl)

theorem eqNilE_sound {R : Type} {P : Program} {op : BinOp} {t : TypeId} {ox oy : Operand} {x y : Value} {k : Value → Option R} {other : Option R} {r : R} (h : eqNilE P op t x y k other = some r) :
    other = some r ∨ ∃ v, k v = some r ∧ flat v = true ∧ ∀ {ρ : Map} {w : World} {x' y' : Value}, VRel ρ x x' → VRel ρ y y' → ((do eqGuard op t ox oy x' y'; binOp op t x' y') : Sem Value).run P w = .ok v w := by
  unfold eqNilE at h
  cases hd : nilDiff P t x y with
  | false => rw [hd] at h; exact .inl h
  | true =>
    rw [hd] at h
    simp only [cond_true] at h
    split at h
    · exact .inr ⟨_, h, rfl, fun hx hy => (nilDiff_run hd hx hy).1 rfl⟩
    · exact .inr ⟨_, h, rfl, fun hx hy => (nilDiff_run hd hx hy).2 rfl⟩
    · exact .inl h

end Go.Vm
namespace Go.Vm
set_option linter.unusedVariables false
set_option linter.unusedSimpArgs false

/-! ### What is no number -/
theorem nanW_read {b : Nat} (h : nanW b = true) : ∃ s t, Ieee.double.read b = .nan s t := by
  unfold nanW Ieee.Datum.isNaN at h
  split at h
  · exact ⟨_, _, ‹_›⟩
  · cases h

theorem nanW_drawn (s r : Nat) (hr : r < 2 ^ 52 - 1) : nanW (s * 2 ^ 63 + 0x7ff0000000000000 + 1 + r) = true := by
  have h1 : Ieee.double.signWeight = 2 ^ 63 := by decide
  have h2 : Ieee.double.binade = 2 ^ 52 := by decide
  have h3 : Ieee.double.infRung = 0x7ff0000000000000 := by decide
  have hm : (s * 2 ^ 63 + 0x7ff0000000000000 + 1 + r) % 2 ^ 63 = 0x7ff0000000000000 + 1 + r := by omega
  unfold nanW Ieee.Format.read
  simp only [h1, h2, h3, hm]
  rw [if_neg (by omega), if_neg (by omega), if_neg (by omega)]
  rfl

theorem nan_arith {op : BinOp} {a b : Nat} (h : nanW a = true ∨ nanW b = true) : floatBits op .f64 a b = none := by
  have hs : ∀ (x : Nat) (d : Ieee.Datum), nanW x = true → (Ieee.double.read x).sum d = none := fun x d hx => by obtain ⟨s, t, e⟩ := nanW_read hx; rw [e]; rfl
  have hs' : ∀ (d : Ieee.Datum) (x : Nat), nanW x = true → d.sum (Ieee.double.read x) = none := fun d x hx => by obtain ⟨s, t, e⟩ := nanW_read hx; rw [e]; cases d <;> rfl
  have ho' : ∀ (d : Ieee.Datum) (x : Nat), nanW x = true → d.sum (Ieee.double.read x).opposite = none := fun d x hx => by obtain ⟨s, t, e⟩ := nanW_read hx; rw [e]; cases d <;> rfl
  have hp : ∀ (x : Nat) (d : Ieee.Datum), nanW x = true → (Ieee.double.read x).product d = none := fun x d hx => by obtain ⟨s, t, e⟩ := nanW_read hx; rw [e]; rfl
  have hp' : ∀ (d : Ieee.Datum) (x : Nat), nanW x = true → d.product (Ieee.double.read x) = none := fun d x hx => by obtain ⟨s, t, e⟩ := nanW_read hx; rw [e]; cases d <;> rfl
  have hq : ∀ (x : Nat) (d : Ieee.Datum) n, nanW x = true → (Ieee.double.read x).quotient n d = none := fun x d n hx => by obtain ⟨s, t, e⟩ := nanW_read hx; rw [e]; rfl
  have hq' : ∀ (d : Ieee.Datum) (x : Nat) n, nanW x = true → d.quotient n (Ieee.double.read x) = none := fun d x n hx => by obtain ⟨s, t, e⟩ := nanW_read hx; rw [e]; cases d <;> rfl
  have hf : FloatKind.f64.format = Ieee.double := rfl
  unfold floatBits
  rw [hf]
  split
  · unfold Ieee.Format.add
    rcases h with h | h
    · rw [hs _ _ h]; rfl
    · rw [hs' _ _ h]; rfl
  · unfold Ieee.Format.sub
    rcases h with h | h
    · rw [hs _ _ h]; rfl
    · rw [ho' _ _ h]; rfl
  · unfold Ieee.Format.mul
    rcases h with h | h
    · rw [hp _ _ h]; rfl
    · rw [hp' _ _ h]; rfl
  · unfold Ieee.Format.div
    rcases h with h | h
    · rw [hq _ _ _ h]; rfl
    · rw [hq' _ _ _ h]; rfl
  · rfl

theorem nan_order {a b : Nat} (h : nanW a = true ∨ nanW b = true) : ordW a b = none := by
  rw [ordW_eq]
  unfold Ieee.Format.order
  rcases h with h | h
  · obtain ⟨s, t, e⟩ := nanW_read h
    rw [e]; rfl
  · obtain ⟨s, t, e⟩ := nanW_read h
    rw [e]; cases Ieee.double.read a <;> rfl

theorem run_nan_arith {P : Program} (w : World) {op : BinOp} (ha : isArith op = true) (t : TypeId) {a b : Nat} (h : floatBits op .f64 a b = none) :
    ∃ c, nanW c = true ∧ (binOp op t (.float .f64 a) (.float .f64 b)).run P w = .ok (.float .f64 c) w.drew := by
  refine ⟨(w.tape w.drawn (.nanBits .f64 a b) % 2) * 2 ^ 63 + 0x7ff0000000000000 + 1 + (w.tape w.drawn (.nanBits .f64 a b) / 2) % (2 ^ 52 - 1), ?_, ?_⟩
  · exact nanW_drawn _ _ (Nat.mod_lt _ (by decide))
  · have key : (Op.floatArith op .f64 a b).run P w = .ok (.float .f64 ((w.tape w.drawn (.nanBits .f64 a b) % 2) * 2 ^ 63 + 0x7ff0000000000000 + 1 + (w.tape w.drawn (.nanBits .f64 a b) / 2) % (2 ^ 52 - 1))) w.drew := by
      unfold floatBits at h
      have hq : Question.forced (.nanBits .f64 a b) = false := rfl
      cases op <;> simp only [isArith, Bool.false_eq_true] at ha <;> simp [Op.floatArith, h, run_choose_drew, hq, Question.cut]
    cases op <;> simp only [isArith, Bool.false_eq_true] at ha <;> (simp only [binOp]; simpa using key)

def cmpN (op : BinOp) : Option Bool :=
  match op with
  | .eql | .lss | .leq | .gtr | .geq => some false
  | .neq => some true
  | _ => none

theorem fcmp_nan {op : BinOp} {a b : Nat} (h : nanW a = true ∨ nanW b = true) : fcmp op a b = cmpN op := by
  unfold fcmp
  rw [nan_order h]
  cases op <;> rfl

def isF (v : Value) : Bool := match v with | .float _ _ => true | _ => false

def nanBinE {R : Type} (op : BinOp) (x y : Value) (k : Value → Option R) (other : Option R) : Option R :=
  match x, y with
  | .float .f64 a, .float .f64 b =>
    bif isArith op then
      match fbF op a b with
      | some n => forceN n fun n => k (.float .f64 n)
      | none => k (.float .f32 0)
    else other
  | .float .f32 _, .float _ _ | .float _ _, .float .f32 _ =>
    bif isArith op then k (.float .f32 0) else (cmpN op).bind fun t => k (.bool t)
  | _, _ => other

theorem Done.drawn {P : Program} {lo : Nat} {o : Oper} {a : Act} {ρ : Map} {H : AH} {w : World} {v v' : Value} (hi : Inv ρ H w)
    (hr : (execOp a.eval o).run P w = .ok (.value v') w.drew) (hv : VRel ρ v v') : Done P lo o a ρ H w v H := Done.value (w' := w.drew) hr (Next.draw hi) hv

theorem floats_rel {ρ : Map} {v v' : Value} (h : VRel ρ v v') (hf : isF v = true) : ∃ b, v' = .float .f64 b ∧ ((∃ n, v = .float .f32 n) → nanW b = true) := by
  cases h with
  | float n => exact ⟨n, rfl, fun ⟨_, e⟩ => by cases e⟩
  | nan n h => exact ⟨_, rfl, fun _ => h⟩
  | _ => cases hf

theorem nanBinE_sound {R : Type} {P : Program} {lo : Nat} {H : AH} {op : BinOp} {t yt : TypeId} {ox oy : Operand} {x y : Value} {k : Value → Option R} {other : Option R} {r : R}
    {o : Oper} (ho : o.op = .binOp op t ox oy yt) (h : nanBinE op x y k other = some r) :
    other = some r ∨ ∃ v, k v = some r ∧ ∀ {ρ : Map} {w : World} {a : Act}, Inv ρ H w → VRel ρ x (a.eval ox) → VRel ρ y (a.eval oy) → Done P lo o a ρ H w v H := by
  have hrun : ∀ {ρ : Map} {w w' : World} {a : Act} {p q : Nat} {v' : Value}, a.eval ox = .float .f64 p → a.eval oy = .float .f64 q → (binOp op t (.float .f64 p) (.float .f64 q)).run P w = .ok v' w' →
      (execOp a.eval o).run P w = .ok (.value v') w' := fun {ρ w w' a p q v'} e1 e2 h => by
    simp only [execOp, ho, e1, e2]
    rw [Sem.run_bind, Sem.run_bind, eqGuard_num rfl]
    simp only [Result.andThen_ok]
    rw [h]
    rfl
  have nans : ∀ {x y : Value}, isF x = true → isF y = true → ((∃ n, x = .float .f32 n) ∨ (∃ n, y = .float .f32 n)) → (bif isArith op then k (.float .f32 0) else (cmpN op).bind fun t => k (.bool t)) = some r →
      ∃ v, k v = some r ∧ ∀ {ρ : Map} {w : World} {a : Act}, Inv ρ H w → VRel ρ x (a.eval ox) → VRel ρ y (a.eval oy) → Done P lo o a ρ H w v H := by
    intro x y fx fy hn h
    cases ha : isArith op with
    | true =>
      rw [ha] at h
      refine ⟨_, h, fun {ρ w a} hi hx hy => ?_⟩
      obtain ⟨p, e1, n1⟩ := floats_rel hx fx
      obtain ⟨q, e2, n2⟩ := floats_rel hy fy
      obtain ⟨c, hc, hr⟩ := run_nan_arith (P := P) w ha t (nan_arith (op := op) (a := p) (b := q) (hn.imp n1 n2))
      exact Done.drawn hi (hrun (ρ := ρ) e1 e2 hr) (.nan 0 hc)
    | false =>
      rw [ha] at h
      obtain ⟨b, h1, h2⟩ := bind_some' h
      refine ⟨_, h2, fun {ρ w a} hi hx hy => ?_⟩
      obtain ⟨p, e1, n1⟩ := floats_rel hx fx
      obtain ⟨q, e2, n2⟩ := floats_rel hy fy
      exact Done.calm hi (hrun (ρ := ρ) e1 e2 (run_float_cmp (by rw [fcmp_nan (hn.imp n1 n2)]; exact h1))) (.bool b)
  unfold nanBinE at h
  split at h
  · rename_i a b
    cases ha : isArith op with
    | false => rw [ha] at h; exact .inl h
    | true =>
      rw [ha] at h
      simp only [cond_true] at h
      split at h
      · rename_i n hn
        rw [forceN_eq] at h
        rw [fbF_eq] at hn
        refine .inr ⟨_, h, fun {ρ w a} hi hx hy => ?_⟩
        generalize e1 : a.eval ox = x' at hx
        generalize e2 : a.eval oy = y' at hy
        cases hx; cases hy
        exact Done.calm hi (hrun (ρ := ρ) e1 e2 (run_float_arith w op t .f64 _ _ n hn)) (.float n)
      · rename_i hn
        rw [fbF_eq] at hn
        refine .inr ⟨_, h, fun {ρ w a} hi hx hy => ?_⟩
        generalize e1 : a.eval ox = x' at hx
        generalize e2 : a.eval oy = y' at hy
        cases hx; cases hy
        obtain ⟨c, hc, hr⟩ := run_nan_arith (P := P) w ha t hn
        exact Done.drawn hi (hrun (ρ := ρ) e1 e2 hr) (.nan 0 hc)
  · exact .inr (nans rfl rfl (.inl ⟨_, rfl⟩) h)
  · exact .inr (nans rfl rfl (.inr ⟨_, rfl⟩) h)
  · exact .inl h

/-! ### Parts -/
def partV (p : Nat) : Value := match p with | 0 => .float .f32 0 | n + 1 => .float .f64 n

theorem partV_rel {ρ : Map} {p a : Nat} (h : partW p a = true) : VRel ρ (partV p) (.float .f64 a) := by
  cases p with
  | zero => exact .nan 0 h
  | succ n =>
    have : n = a := Nat.eq_of_beq_eq_true h
    subst this
    exact .float n

def nanBuiltinE {R : Type} (b : Builtin) (vs : List Value) (k : Value → Option R) (other : Option R) : Option R :=
  match b, vs with
  | .real, [.complex .f32 p q] => k (partV p)
  | .imag, [.complex .f32 p q] => k (partV q)
  | .complex, [.float .f32 _, .float .f64 w] => k (.complex .f32 0 (w + 1))
  | .complex, [.float .f64 w, .float .f32 _] => k (.complex .f32 (w + 1) 0)
  | .complex, [.float .f32 _, .float .f32 _] => k (.complex .f32 0 0)
  | _, _ => other

theorem nanBuiltinE_sound {R : Type} {P : Program} {b : Builtin} {ts : Array TypeId} {ty : TypeId} {vs : List Value} {k : Value → Option R} {other : Option R} {r : R} (h : nanBuiltinE b vs k other = some r) :
    other = some r ∨ ∃ v, k v = some r ∧ ∀ {ρ : Map} {w : World} {cs : Array Bool} {vs' : List Value}, VRels ρ vs vs' → ∃ v', (builtin b ts ty cs ⟨vs'⟩).run P w = .ok (.value v') w ∧ VRel ρ v v' := by
  unfold nanBuiltinE at h
  split at h
  · refine .inr ⟨_, h, fun {ρ w cs vs'} hx => ?_⟩
    obtain _ | ⟨h1, h2⟩ := hx
    cases h2
    cases h1 with | cnan h g =>
    exact ⟨_, rfl, partV_rel h⟩
  · refine .inr ⟨_, h, fun {ρ w cs vs'} hx => ?_⟩
    obtain _ | ⟨h1, h2⟩ := hx
    cases h2
    cases h1 with | cnan h g =>
    exact ⟨_, rfl, partV_rel g⟩
  · refine .inr ⟨_, h, fun {ρ w cs vs'} hx => ?_⟩
    obtain _ | ⟨h1, h2⟩ := hx
    obtain _ | ⟨h2, h3⟩ := h2
    cases h3
    cases h1 with | nan _ h =>
    cases h2
    exact ⟨.complex .f64 _ _, by simp only [builtin, Sem.run_bind, run_complex, Result.andThen_ok, Sem.run_pure]; rfl, .cnan h (by simp [partW])⟩
  · refine .inr ⟨_, h, fun {ρ w cs vs'} hx => ?_⟩
    obtain _ | ⟨h1, h2⟩ := hx
    obtain _ | ⟨h2, h3⟩ := h2
    cases h3
    cases h2 with | nan _ h =>
    cases h1
    exact ⟨.complex .f64 _ _, by simp only [builtin, Sem.run_bind, run_complex, Result.andThen_ok, Sem.run_pure]; rfl, .cnan (by simp [partW]) h⟩
  · refine .inr ⟨_, h, fun {ρ w cs vs'} hx => ?_⟩
    obtain _ | ⟨h1, h2⟩ := hx
    obtain _ | ⟨h2, h3⟩ := h2
    cases h3
    cases h1 with | nan _ h =>
    cases h2 with | nan _ g =>
    exact ⟨.complex .f64 _ _, by simp only [builtin, Sem.run_bind, run_complex, Result.andThen_ok, Sem.run_pure], .cnan h g⟩
  · exact .inl h
end Go.Vm
