/- A code is evaluated with its loops told by a handler of their own, round by round; no conditions. What a code does stands with more memory and more names ahead, and fewer behind; no conditions. A call told in an empty memory is told in any memory; no conditions. -/
import Derived.Test.YtnbpfafngidimaaGreatVmHB
namespace Go.Vm
set_option linter.unusedVariables false
set_option linter.unusedSimpArgs false

/-! ### Loops by a handler of their own -/
abbrev Hand := ∀ R : Type, Nat → Nat → Code → Env → AH → (Ex → Env → AH → Option R) → Option R
def evTop {R : Type} (C : Cx) (n : Nat) (L : Hand) (lo sz : Nat) : Code → Env → AH → (Ex → Env → AH → Option R) → Option R
  | .skip, e, H, k => k .normal e H
  | .region _ ops draw, e, H, k =>
    bif draw then bif drawOk ops then evDraw C (calAt C n) lo sz ops (masks ops) H.next 0 [] [] ops.toList e H (fun e' H' => k .normal e' H') else none
    else evOps C (calAt C n) lo sz ops ops.toList e H fun e' H' => k .normal e' H'
  | .seq a b, e, H, k => evTop C n L lo sz a e H fun ex e' H' =>
      match ex with
      | .normal => evTop C n L lo sz b e' H' k
      | ex => k ex e' H'
  | .cond x a b, e, H, k => (opd e x).bind fun v =>
      match v with
      | .bool t => bif t then evTop C n L lo sz a e H k else evTop C n L lo sz b e H k
      | _ => none
  | .block id a, e, H, k => evTop C n L lo sz a e H fun ex e' H' =>
      match ex with
      | .exit j => bif Nat.beq j id then k .normal e' H' else k (.exit j) e' H'
      | ex => k ex e' H'
  | .loop a, e, H, k => L R lo sz a e H k
  | .exit id, e, H, k => k (.exit id) e H
  | .ret, e, H, k => k .ret e H
  | _, _, _, _ => none

/-- the loops of a code that stand in no loop -/
def loopsIn : Code → List Code
  | .seq a b => loopsIn a ++ loopsIn b
  | .cond _ a b => loopsIn a ++ loopsIn b
  | .block _ a => loopsIn a
  | .loop a => [a]
  | _ => []

def LOk (P : Program) (L : Hand) (a : Code) : Prop :=
  ∀ (R : Type) (lo sz : Nat) (e : Env) (H : AH) (k : Ex → Env → AH → Option R) (r : R), L R lo sz a e H k = some r →
    ∃ ex e' H', k ex e' H' = some r ∧ CodeOk P lo sz e H ex e' H' (fun Q act w => Code.wp P (.loop a) Q act w)

/-- what is told of regions, once more, for any way to evaluate calls -/
theorem region_sound {R : Type} {C : Cx} (hC : C.Ok) (hmix : C.P.follows .mixedOrders = true) {n : Nat} {lo sz : Nat} {id : Nat} {ops : Array Oper} {draw : Bool} {e : Env} {H : AH} {k : Ex → Env → AH → Option R} {r : R}
    (h : evCode C (n + 1) lo sz (.region id ops draw) e H k = some r) : ∃ ex e' H', k ex e' H' = some r ∧ CodeOk C.P lo sz e H ex e' H' (fun Q a w => (Code.region id ops draw).wp C.P Q a w) :=
  (evCode_sound hC hmix (n + 1)).1 _ _ _ _ _ _ _ h

theorem evTop_sound {R : Type} {C : Cx} (hC : C.Ok) (hmix : C.P.follows .mixedOrders = true) {n : Nat} {L : Hand} {lo sz : Nat} : ∀ (c : Code) (_ : ∀ a ∈ loopsIn c, LOk C.P L a) (e : Env) (H : AH) (k : Ex → Env → AH → Option R) (r : R), evTop C n L lo sz c e H k = some r →
    ∃ ex e' H', k ex e' H' = some r ∧ CodeOk C.P lo sz e H ex e' H' (fun Q a w => c.wp C.P Q a w) := by
  intro c
  induction c with
  | skip => exact fun _ e H k r h => ⟨.normal, e, H, h, fun {ρ w a} hi hlo he hs Q hQ => wp_skip (hQ ρ a w (Next.refl hi) he hs rfl)⟩
  | region id ops draw => exact fun _ e H k r h => region_sound hC hmix (n := n) (id := id) (by simp only [evCode]; exact h)
  | seq x y ihx ihy =>
    intro hL e H k r h
    simp only [evTop] at h
    obtain ⟨ex, e1, H1, h1, h2⟩ := ihx (fun a ha => hL a (by simp [loopsIn, ha])) _ _ _ _ h
    cases ex with
    | normal =>
      simp only at h1
      obtain ⟨ex', e', H', g1, g2⟩ := ihy (fun a ha => hL a (by simp [loopsIn, ha])) _ _ _ _ h1
      refine ⟨ex', e', H', g1, fun {ρ w a} hi hlo he hs Q hQ => wp_seq ?_⟩
      refine h2 hi hlo he hs _ fun ρ1 a1 w1 m1 m2 m3 m4 => ?_
      exact g2 m1.inv (Nat.le_trans hlo m1.nx) m2 m3 Q fun ρ' a' w' q1 q2 q3 q4 => hQ ρ' a' w' (m1.trans q1) q2 q3 (q4.trans m4)
    | exit id => exact ⟨.exit id, e1, H1, h1, fun {ρ w a} hi hlo he hs Q hQ => wp_seq (h2 hi hlo he hs _ fun ρ1 a1 w1 m1 m2 m3 m4 => hQ ρ1 a1 w1 m1 m2 m3 m4)⟩
    | ret => exact ⟨.ret, e1, H1, h1, fun {ρ w a} hi hlo he hs Q hQ => wp_seq (h2 hi hlo he hs _ fun ρ1 a1 w1 m1 m2 m3 m4 => hQ ρ1 a1 w1 m1 m2 m3 m4)⟩
  | cond x y z ihy ihz =>
    intro hL e H k r h
    simp only [evTop] at h
    obtain ⟨v, h1, h⟩ := bind_some' h
    split at h
    · rename_i t
      have hc : ∀ {ρ : Map} {a : Act}, EnvRel ρ e a.tmps → a.eval x = .bool t := fun {ρ a} he => by
        have := opd_rel he h1
        generalize a.eval x = v' at *
        cases this
        rfl
      cases t with
      | true =>
        obtain ⟨ex, e', H', g1, g2⟩ := ihy (fun a ha => hL a (by simp [loopsIn, ha])) _ _ _ _ (by simpa using h)
        exact ⟨ex, e', H', g1, fun {ρ w a} hi hlo he hs Q hQ => wp_cond_true (hc he) (g2 hi hlo he hs Q hQ)⟩
      | false =>
        obtain ⟨ex, e', H', g1, g2⟩ := ihz (fun a ha => hL a (by simp [loopsIn, ha])) _ _ _ _ (by simpa using h)
        exact ⟨ex, e', H', g1, fun {ρ w a} hi hlo he hs Q hQ => wp_cond_false (hc he) (g2 hi hlo he hs Q hQ)⟩
    · cases h
  | block id x ihx =>
    intro hL e H k r h
    simp only [evTop] at h
    obtain ⟨ex, e1, H1, h1, h2⟩ := ihx (fun a ha => hL a (by simp [loopsIn, ha])) _ _ _ _ h
    cases ex with
    | normal => exact ⟨.normal, e1, H1, h1, fun {ρ w a} hi hlo he hs Q hQ => wp_block (h2 hi hlo he hs _ fun ρ1 a1 w1 m1 m2 m3 m4 => hQ ρ1 a1 w1 m1 m2 m3 m4)⟩
    | ret => exact ⟨.ret, e1, H1, h1, fun {ρ w a} hi hlo he hs Q hQ => wp_block (h2 hi hlo he hs _ fun ρ1 a1 w1 m1 m2 m3 m4 => hQ ρ1 a1 w1 m1 m2 m3 m4)⟩
    | exit j =>
      simp only at h1
      cases hj : Nat.beq j id with
      | true =>
        rw [hj] at h1
        have := Nat.eq_of_beq_eq_true hj
        subst this
        refine ⟨.normal, e1, H1, h1, fun {ρ w a} hi hlo he hs Q hQ => wp_block (h2 hi hlo he hs _ fun ρ1 a1 w1 m1 m2 m3 m4 => ?_)⟩
        simp only [Ex.to, Exit.inBlock, if_true]
        exact hQ ρ1 a1 w1 m1 m2 m3 m4
      | false =>
        rw [hj] at h1
        have hne : j ≠ id := fun e => by subst e; simp at hj
        refine ⟨.exit j, e1, H1, h1, fun {ρ w a} hi hlo he hs Q hQ => wp_block (h2 hi hlo he hs _ fun ρ1 a1 w1 m1 m2 m3 m4 => ?_)⟩
        simp only [Ex.to, Exit.inBlock, if_neg hne]
        exact hQ ρ1 a1 w1 m1 m2 m3 m4
  | loop x _ => exact fun hL e H k r h => hL x (by simp [loopsIn]) _ _ _ _ _ _ _ h
  | exit id => exact fun _ e H k r h => ⟨.exit id, e, H, h, fun {ρ w a} hi hlo he hs Q hQ => wp_exit (hQ ρ a w (Next.refl hi) he hs rfl)⟩
  | ret => exact fun _ e H k r h => ⟨.ret, e, H, h, fun {ρ w a} hi hlo he hs Q hQ => wp_ret (hQ ρ a w (Next.refl hi) he hs rfl)⟩
  | _ => exact fun _ e H k r h => by simp [evTop] at h

/-! ### A loop, round by round -/
def RoundsOk (P : Program) (lo sz n : Nat) (a : Code) (e : Env) (H : AH) (ex : Ex) (e' : Env) (H' : AH) : Prop :=
  CodeOk P lo sz e H ex e' H' (fun Q act w => Code.rounds P a Q n act w)
theorem rounds_step {P : Program} {lo sz n : Nat} {a : Code} {e e1 e' : Env} {H H1 H' : AH} {ex : Ex} (h1 : CodeOk P lo sz e H .normal e1 H1 (fun Q act w => a.wp P Q act w)) (h2 : RoundsOk P lo sz n a e1 H1 ex e' H') : RoundsOk P lo sz (n + 1) a e H ex e' H' :=
  fun {ρ w act} hi hlo he hs Q hQ => by
    show Code.wp P a (Exit.then (Code.rounds P a Q n) Q) act w
    refine h1 hi hlo he hs _ fun ρ1 a1 w1 m1 m2 m3 m4 => ?_
    exact h2 m1.inv (Nat.le_trans hlo m1.nx) m2 m3 Q fun ρ' a' w' q1 q2 q3 q4 => hQ ρ' a' w' (m1.trans q1) q2 q3 (q4.trans m4)
theorem rounds_end {P : Program} {lo sz n : Nat} {a : Code} {e e' : Env} {H H' : AH} {ex : Ex} (hne : ex ≠ .normal) (h1 : CodeOk P lo sz e H ex e' H' (fun Q act w => a.wp P Q act w)) : RoundsOk P lo sz (n + 1) a e H ex e' H' :=
  fun {ρ w act} hi hlo he hs Q hQ => by
    show Code.wp P a (Exit.then (Code.rounds P a Q n) Q) act w
    refine h1 hi hlo he hs _ fun ρ1 a1 w1 m1 m2 m3 m4 => wp_exits (P := P) hne (hQ ρ1 a1 w1 m1 m2 m3 m4)
theorem rounds_loop {P : Program} {lo sz n : Nat} {a : Code} {e e' : Env} {H H' : AH} {ex : Ex} (h : RoundsOk P lo sz n a e H ex e' H') : CodeOk P lo sz e H ex e' H' (fun Q act w => Code.wp P (.loop a) Q act w) :=
  fun {ρ w act} hi hlo he hs Q hQ => wp_loop_rounds n (h hi hlo he hs Q hQ)
/-- less may be told ahead, and less behind -/
theorem CodeOk.env {P : Program} {lo sz : Nat} {e e1 e2 e' : Env} {H H' : AH} {ex : Ex} {W : (Exit → Act → World → Prop) → Act → World → Prop} (h : CodeOk P lo sz e1 H ex e2 H' W)
    (h1 : ∀ t v, getE t e1 = some v → getE t e = some v) (h2 : ∀ t v, getE t e' = some v → getE t e2 = some v) : CodeOk P lo sz e H ex e' H' W :=
  fun {ρ w act} hi hlo he hs Q hQ => h hi hlo (fun t v hv => he t v (h1 t v hv)) hs Q fun ρ' a' w' q1 q2 q3 q4 => hQ ρ' a' w' q1 (fun t v hv => q2 t v (h2 t v hv)) q3 q4
end Go.Vm
namespace Go.Vm
set_option linter.unusedVariables false
set_option linter.unusedSimpArgs false

/-! ### More may lie in memory ahead, and less behind -/
theorem OHas.scope {ρ ρ' : Map} {n : Nat} (hρ : ∀ k, k < n → ρ' k = ρ k) {cs : List Value} {sz : Nat} {s : Spot} {w : World} (h : OHas ρ' (.cells cs sz) s w) (hin : inns n cs = true) : OHas ρ (.cells cs sz) s w := by
  obtain ⟨arr, ty, cs', h1, h2, h3⟩ := h
  exact ⟨arr, ty, cs', h1, VRels.scope hρ h2 hin, h3⟩
/-- all objects are cells that name blocks below n alone, and lie below n -/
def trimOk (n : Nat) : Objs → Bool
  | [] => true
  | (k, .cells cs _) :: r => Nat.blt k n && inns n cs && trimOk n r
  | _ => false
theorem trimOk_mem {n : Nat} {k : Nat} {o : AObj} : ∀ {O : Objs}, trimOk n O = true → (k, o) ∈ O → k < n ∧ ∃ cs sz, o = .cells cs sz ∧ inns n cs = true
  | [], _, h => by simp at h
  | (j, .cells cs sz) :: r, hO, h => by
    unfold trimOk at hO
    simp only [Bool.and_eq_true, Nat.blt_eq] at hO
    rcases List.mem_cons.1 h with e | h
    · cases e; exact ⟨hO.1.1, cs, sz, rfl, hO.1.2⟩
    · exact trimOk_mem hO.2 h
  | (j, .map kk es) :: r, hO, h => by simp [trimOk] at hO
theorem CodeOk.shape {P : Program} {sz : Nat} {e e1 e2 e' : Env} {H H1 H2 : AH} {O : Objs} {ex : Ex} {W : (Exit → Act → World → Prop) → Act → World → Prop} (h : CodeOk P 0 sz e1 H1 ex e2 H2 W)
    (h1 : ∀ t v, getE t e1 = some v → getE t e = some v) (hn : H.next = H1.next) (hO1 : ∀ x, x ∈ H1.objs → x ∈ H.objs)
    (h2 : ∀ t v, getE t e' = some v → getE t e2 = some v ∧ inn H.next v = true) (hO : ∀ x, x ∈ O → x ∈ H2.objs) (ht : trimOk H.next O = true) : CodeOk P 0 sz e H ex e' ⟨H.next, O⟩ W :=
  fun {ρ w act} hi hlo he hs Q hQ => by
    have hi1 : Inv ρ H1 w := ⟨fun k hk => hi.dom k (by omega), fun k o hm => by have := hi.wf k o (hO1 _ hm); omega, fun k o o' g1 g2 => hi.one k o o' (hO1 _ g1) (hO1 _ g2), hi.rel.sub hO1⟩
    refine h hi1 (Nat.zero_le _) (fun t v hv => he t v (h1 t v hv)) hs Q fun ρ' a' w' m1 m2 m3 m4 => hQ ρ a' w' ?_ (fun t v hv => ?_) m3 m4
    · have sm : ∀ k, k < H.next → ρ' k = ρ k := fun k hk => m1.same k (by omega)
      exact
        { inv := ⟨fun k hk => hi.dom k hk, fun k o hm => (trimOk_mem ht hm).1, fun k o o' g1 g2 => m1.inv.one k o o' (hO _ g1) (hO _ g2),
            ⟨fun k o hm => by
              obtain ⟨hk, cs, sz', rfl, hin⟩ := trimOk_mem ht hm
              obtain ⟨s, e1, e2⟩ := m1.inv.rel.obj k _ (hO _ hm)
              exact ⟨s, by rw [← sm k hk]; exact e1, e2.scope sm hin⟩,
            fun k o k' o' s s' g1 g2 g3 g4 => m1.inv.rel.inj k o k' o' s s' (hO _ g1) (hO _ g2) (by rw [sm k (trimOk_mem ht g1).1]; exact g3) (by rw [sm k' (trimOk_mem ht g2).1]; exact g4)⟩⟩
          same := fun k hk => rfl
          nx := Nat.le_refl _
          size := m1.size
          os := m1.os
          tape := m1.tape
          output := m1.output
          keep := fun b hb hn' => m1.keep b hb fun k o s hk hm he' => hn' k o s hk (hO1 _ hm) he'
          own := fun k o s hk hm he' => by
            rcases m1.own k o s hk (hO _ hm) (by rw [sm k (trimOk_mem ht hm).1]; exact he') with g | ⟨k', o', s', g1, g2, g3, g4⟩
            · exact .inl g
            · exact .inr ⟨k', o', s', g1, hO1 _ g2, g3, g4⟩
          old := fun k o hk => absurd hk (Nat.not_lt_zero k) }
    · obtain ⟨g1, g2⟩ := h2 t v hv
      obtain ⟨v', e1, e2⟩ := m2 t v g1
      exact ⟨v', e1, e2.scope (fun k hk => m1.same k (by omega)) g2⟩
/-- what a body leaves is what its call returns -/
theorem calls_of_code {P : Program} {f : FuncId} {fn : Func} {c : Code} {args : List Value} {H H' : AH} {e' : Env} {ex : Ex} {vs : List Value} (hf : P.funcs[f]? = some fn) (hb : fn.body = some c) (hl : args.length ≤ fn.ntmps)
    (h : CodeOk P 0 fn.ntmps (enumE 0 args) H ex e' H' (fun Q a w => c.wp P Q a w)) (hex : ex = .normal ∨ ex = .ret) (hr : resE P e' H' fn.results.toList = some vs) :
    ∀ ρ w args', Inv ρ H w → VRels ρ args args' → Calls P f ⟨args'⟩ w fun e w' => ∃ ρ' v', e = .returned v' ∧ VRel ρ' (oneOf vs) v' ∧ Next 0 ρ H w ρ' H' w' := by
  intro ρ w args' hi ha
  have hlen := ha.length
  refine calls_of_wp hf hb ?_
  refine h hi (Nat.zero_le _) (enum_rel ha _) (by simp; omega) _ fun ρ' a' w' n1 n2 n3 n4 => ?_
  obtain ⟨v', r1, r2⟩ := results_run hr n1.inv n2
  have post : a'.defers = [] ∧ ∃ v, (results fn a'.tmps).run P w' = .ok v w' ∧ ∃ ρ' v', Ending.returned v = .returned v' ∧ VRel ρ' (oneOf vs) v' ∧ Next 0 ρ H w ρ' H' w' :=
    ⟨n4, v', r1, ρ', v', rfl, r2, n1⟩
  rcases hex with rfl | rfl
  · exact post
  · exact post
end Go.Vm
namespace Go.Vm
set_option linter.unusedVariables false
set_option linter.unusedSimpArgs false

/-! ### A call in an empty memory tells of the call in any -/
theorem rebase {P : Program} {f : FuncId} {args cs : List Value} {b n m : Nat} {x : Int} {Hb : AH} (hm : (b, .cells cs 0) ∈ Hb.objs) (hcs : inns 0 cs = true) (ha : inns 0 args = true)
    (h : ∀ w, Calls P f ⟨args⟩ w fun e w' => ∃ ρ' v', e = .returned v' ∧ VRel ρ' (.tuple ⟨[.slice (some ⟨b, 0, none⟩) n m, .int .i64 x]⟩) v' ∧ Next 0 (fun _ => none) ⟨0, []⟩ w ρ' Hb w') :
    ∀ (lo : Nat) (ρ : Map) (H : AH) (w : World) (args' : List Value), Inv ρ H w → lo ≤ H.next → VRels ρ args args' →
      Calls P f ⟨args'⟩ w fun e w' => ∃ ρ' v', e = .returned v' ∧ VRel ρ' (.tuple ⟨[.slice (some ⟨H.next, 0, none⟩) n m, .int .i64 x]⟩) v' ∧ Next lo ρ H w ρ' (H.push (.cells cs 0)) w' := by
  intro lo ρ H w args' hi hlo hr
  have e := hr.flat_eq ha
  subst e
  refine (h w).mono ?_
  rintro e w' ⟨ρ', v', rfl, hv, hn⟩
  cases hv with
  | tuple hv =>
    cases hv with
    | cons h1 h2 =>
      cases h1 with
      | slice hs =>
        rename_i s
        obtain ⟨s', g1, g2⟩ := hn.inv.rel.obj _ _ hm
        rw [hs] at g1
        cases g1
        obtain ⟨arr, ty, cs', q1, q2, q3⟩ := g2
        have ec := q2.flat_eq hcs
        subst ec
        have hge : w.heap.size ≤ s.b := by
          rcases hn.own _ _ _ (Nat.zero_le _) hm hs with g | ⟨k', o', s', _, g, _⟩
          · exact g
          · simp at g
        refine ⟨upd ρ H.next s, _, rfl, .tuple (.cons (.slice (upd_same _ _ _)) ?_), ?_⟩
        · have := h2.flat_eq rfl
          subst this
          exact VRels.ofFlat _ rfl
        · refine Next.add hi hlo _ s H.objs (fun _ h => h) (fun _ _ _ h => h) hn.size hn.os hn.tape hn.output (fun b' hb' _ => ?_) (.inl hge) (fun k o s2 hk he => ?_) ?_
          · exact hn.keep b' hb' fun k o s2 _ hk => by simp at hk
          · obtain ⟨s3, e1, e2⟩ := hi.rel.obj k o hk
            rw [e1] at he
            cases he
            have := e2.lt
            omega
          · exact ⟨arr, ty, cs', q1, VRels.ofFlat _ hcs, q3⟩
end Go.Vm
