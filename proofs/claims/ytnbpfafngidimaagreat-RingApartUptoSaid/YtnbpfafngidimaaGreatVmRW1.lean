/- A part of the evaluator and of what is told of floats; no conditions. -/
import Derived.Test.YtnbpfafngidimaaGreatVmRA9
import Derived.Test.YtnbpfafngidimaaGreatVmRD2ss
import Derived.Test.YtnbpfafngidimaaGreatVmRD3
import Derived.Test.YtnbpfafngidimaaGreatVmRE2
import Derived.Test.YtnbpfafngidimaaGreatVmRD2ns
import Derived.Deep.Slices
import Derived.Carry
import Derived.Lib.SmallJoins
import Derived.ProofKit
import Derived.OpenShut
namespace Go.Vm
open Go.Proofs
set_option linter.unusedVariables false
set_option maxRecDepth 1000000

/-! ### The places -/
noncomputable def chkU : List (Nat × Nat × Nat) → Bool
  | [] => true
  | (t, x, y) :: r => isC (evFn (cxm Tryz.prog hot) 300 162 [.float .f64 4611686018427387904, .float .f64 t] some) x y && chkU r
theorem chkU_look {t x y : Nat} : ∀ {l : List (Nat × Nat × Nat)}, chkU l = true → lookP t l = some (x, y) → evFn (cxm Tryz.prog hot) 300 162 [.float .f64 4611686018427387904, .float .f64 t] some = some (.complex .f64 x y)
  | [], _, h => by cases h
  | (a, u, v) :: r, hc, h => by
    unfold chkU at hc
    simp only [Bool.and_eq_true] at hc
    unfold lookP at h
    cases ha : Nat.beq a t with
    | true =>
      rw [ha] at h
      cases h
      have := Nat.eq_of_beq_eq_true ha
      subst this
      exact isC_eq hc.1
    | false => rw [ha] at h; exact chkU_look hc.2 h
theorem pu0 : chkU placeU0 = true := by kernel_rfl
theorem pu1 : chkU placeU1 = true := by kernel_rfl
theorem pu2 : chkU placeU2 = true := by kernel_rfl
theorem pu3 : chkU placeU3 = true := by kernel_rfl
theorem k162u : SumOk Tryz.prog 162 sPlaceU := by
  intro R args k r hr
  unfold sPlaceU at hr
  split at hr
  · rename_i l t
    cases hl : Nat.beq l 4611686018427387904 with
    | false => rw [hl] at hr; cases hr
    | true =>
      rw [hl] at hr
      have := Nat.eq_of_beq_eq_true hl
      subst this
      simp only [cond_true] at hr
      have key : ∃ x y, evFn (cxm Tryz.prog hot) 300 162 [.float .f64 4611686018427387904, .float .f64 t] some = some (.complex .f64 x y) ∧ k (.complex .f64 x y) = some r := by
        split at hr
        · exact ⟨_, _, chkU_look pu0 ‹_›, hr⟩
        · split at hr
          · exact ⟨_, _, chkU_look pu1 ‹_›, hr⟩
          · split at hr
            · exact ⟨_, _, chkU_look pu2 ‹_›, hr⟩
            · split at hr
              · exact ⟨_, _, chkU_look pu3 ‹_›, hr⟩
              · cases hr
      obtain ⟨x, y, h1, h2⟩ := key
      obtain ⟨v, g1, g2, g3⟩ := evFn_sound (cxm_ok hot_ok) zm_ok h1 rfl
      cases g1
      exact ⟨rfl, _, h2, g2, g3⟩
  · cases hr

/-! ### The speeds -/
noncomputable def evU (z1 z2 : Nat) : Option Value := match Tryz.f52.body with
  | some c => calAt (cxm Tryz.prog hot) 300 1 52 Tryz.f52 c [.agg ⟨[.slice (some ⟨0, 0, none⟩) 2 2]⟩, .complex .f64 z1 z2] ⟨1, [(0, .cells fTwo 0)]⟩ (fun v _ => bif flat v then some v else none)
  | none => none
noncomputable def chkV : List (Nat × Nat × Nat × Nat) → Bool
  | [] => true
  | (a, b, x, y) :: r => isT (evU a b) x y && chkV r
theorem chkV_look {z1 z2 : Nat} {p : Nat × Nat} : ∀ {l : List (Nat × Nat × Nat × Nat)}, chkV l = true → lookT z1 z2 l = some p → evU z1 z2 = some (spV p)
  | [], _, h => by cases h
  | (a, b, u, v) :: r, hc, h => by
    unfold chkV at hc
    simp only [Bool.and_eq_true] at hc
    unfold lookT at h
    cases ha : (Nat.beq a z1 && Nat.beq b z2) with
    | true =>
      rw [ha] at h
      cases h
      simp only [Bool.and_eq_true, Nat.beq_eq] at ha
      rw [← ha.1, ← ha.2]
      exact isT_eq hc.1
    | false => rw [ha] at h; exact chkV_look hc.2 h
theorem su0 : chkV speedU0 = true := by kernel_rfl
theorem su1 : chkV speedU1 = true := by kernel_rfl
theorem su2 : chkV speedU2 = true := by kernel_rfl
theorem su3 : chkV speedU3 = true := by kernel_rfl

theorem speedU_calls {z1 z2 : Nat} {v : Value} (h : evU z1 z2 = some v) : flat v = true ∧ ∀ (b : Nat) (ρ : Map) (H : AH) (w : World) (args' : List Value), Inv ρ H w → look b H.objs = some (.cells fTwo 0) →
    VRels ρ [.agg ⟨[.slice (some ⟨b, 0, none⟩) 2 2]⟩, .complex .f64 z1 z2] args' → Calls Tryz.prog 52 ⟨args'⟩ w fun e w' => e = .returned v ∧ RowKit.Below w.heap.size w w' := by
  unfold evU at h
  split at h
  · rename_i c hb
    obtain ⟨v', H', h1, h2⟩ := cal_sound (cxm_ok hot_ok) (fun lo sz c e H k r => (evCode_sound (cxm_ok hot_ok) zm_ok 300).1 lo sz c e H k r) _ _ _ _ _ _ _ _ h Tryz.func52 hb
    cases hfl : flat v' with
    | false => rw [hfl] at h1; cases h1
    | true =>
      rw [hfl] at h1
      cases h1
      refine ⟨hfl, fun b ρ H w args' hi hl ha => ?_⟩
      obtain ⟨s, e1, arr, ty, cs', q1, q2, q3, q4, q5⟩ := hi.rel.obj b _ (look_mem hl)
      have hflat : inns 0 fTwo = true := by decide
      have := q2.flat_eq hflat
      subst this
      have hinv : Inv (fun k => bif Nat.beq k 0 then some s else none) ⟨1, [(0, .cells fTwo 0)]⟩ w :=
        ⟨fun k hk => by
            simp only at hk
            have : Nat.beq k 0 = false := beq_ne (by omega)
            simp [this],
          fun k o hm => by simp only [List.mem_singleton, Prod.mk.injEq] at hm; simp [hm.1],
          fun k o o' hm hm' => by simp only [List.mem_singleton, Prod.mk.injEq] at hm hm'; rw [hm.2, hm'.2],
          ⟨fun k o hm => by
              simp only [List.mem_singleton, Prod.mk.injEq] at hm
              obtain ⟨rfl, rfl⟩ := hm
              exact ⟨s, rfl, arr, ty, fTwo, q1, VRels.ofFlat _ hflat, q3, q4, q5⟩,
            fun k o k' o' s s' hm hm' _ _ _ => by simp only [List.mem_singleton, Prod.mk.injEq] at hm hm'; rw [hm.1, hm'.1]⟩⟩
      have hargs : VRels (fun k => bif Nat.beq k 0 then some s else none) [.agg ⟨[.slice (some ⟨0, 0, none⟩) 2 2]⟩, .complex .f64 z1 z2] args' := by
        obtain _ | ⟨r1, r2⟩ := ha
        obtain _ | ⟨r2, r3⟩ := r2
        cases r3
        cases r2
        cases r1 with | agg r1 =>
        obtain _ | ⟨r1, r4⟩ := r1
        cases r4
        cases r1 with
        | @slice _ _ _ _ s2 hs =>
          rw [e1] at hs
          cases hs
          exact .cons (.agg (.cons (.slice (s := s) rfl) .nil)) (.cons (.complex _ _) .nil)
      refine (h2 _ w args' hinv (Nat.le_refl _) hargs).mono ?_
      rintro e w' ⟨ρ', v', rfl, g1, g2⟩
      have := g1.flat_eq hfl
      subst this
      exact ⟨rfl, g2.os, g2.tape, g2.output, g2.size, fun b hb => g2.keep b hb fun k o s hk hm => by simp only [List.mem_singleton, Prod.mk.injEq] at hm; omega⟩
  · cases h

theorem hsU_ok : ∀ f args H v, hsU f args H = some v → Has Tryz.prog f ∧ flat v = true ∧
    ∀ (ρ : Map) (w : World) (args' : List Value), Inv ρ H w → VRels ρ args args' → Calls Tryz.prog f ⟨args'⟩ w fun e w' => e = .returned v ∧ RowKit.Below w.heap.size w w' := by
  intro f args H v h
  unfold hsU at h
  cases hf : Nat.beq f 52 with
  | false => rw [hf] at h; cases h
  | true =>
    rw [hf] at h
    have := Nat.eq_of_beq_eq_true hf
    subst this
    simp only [cond_true] at h
    split at h
    · rename_i b z1 z2
      split at h
      · rename_i cs hl
        cases he : eqC cs fTwo with
        | false => rw [he] at h; cases h
        | true =>
          rw [he] at h
          have := eqC_eq he
          subst this
          simp only [cond_true] at h
          have key : evU z1 z2 = some v := by
            split at h
            · cases h; exact chkV_look su0 ‹_›
            · split at h
              · cases h; exact chkV_look su1 ‹_›
              · split at h
                · cases h; exact chkV_look su2 ‹_›
                · split at h
                  · cases h; exact chkV_look su3 ‹_›
                  · cases h
          obtain ⟨g1, g2⟩ := speedU_calls key
          exact ⟨h52, g1, fun ρ w args' hi ha => g2 b ρ H w args' hi hl ha⟩
      · cases h
    · cases h

theorem cxu_ok {l : List (Nat × Sum)} (h : AllOk Tryz.prog l) : (cxu l).Ok where
  fair := fiReal_fair
  sums := fun f g hg => tab_ok (.cons k162u h162 h) f g hg
  exts := fun f g hg => exts_ok extL_ok f g hg
  meths := meth_ok
  nan1 := (cxm_ok h).nan1
  hs := hsU_ok
end Go.Vm
namespace Go.Vm
open Go.Proofs
set_option linter.unusedVariables false
set_option maxRecDepth 1000000
theorem awake_eval : evFn (cxu hot) 1000 30 [] some = some (.bool true) := by kernel_rfl
theorem awake_call (H : AH) : FlatCall Tryz.prog 30 [] H (.bool true) := by
  obtain ⟨v, h1, _, h2⟩ := evFn_sound (cxu_ok hot_ok) zm_ok awake_eval rfl
  cases h1
  intro ρ w args' hi ha
  cases ha
  exact h2 w
end Go.Vm
namespace Go.Vm
open Go.Proofs Ieee
set_option linter.unusedVariables false
set_option linter.unusedSimpArgs false
set_option maxRecDepth 1000000

/-! ### RingApart's call -/
theorem lift_list {P : Program} {f : FuncId} {argsc args : List Value} {es os : List Value} {sz t b : Nat} {H H1 : AH} {v : Nat → Value} (hes : inns 0 es = true) (hos : inns 0 os = true) (hm : (b, .cells es sz) ∈ H.objs)
    (ha : renL (only b) argsc = some args) (hv : renV (placeC (only b) 1 H.next [3]) (v 3) = some (v H.next)) (hH1 : (3, .cells os t) ∈ H1.objs)
    (hc : ∀ ρ w args', Inv ρ ⟨1, [(0, .cells es sz)]⟩ w → VRels ρ argsc args' → Calls P f ⟨args'⟩ w fun e w' => ∃ ρ' v', e = .returned v' ∧ VRel ρ' (v 3) v' ∧ Next 1 ρ ⟨1, [(0, .cells es sz)]⟩ w ρ' H1 w') : MemCall P f args H (v H.next) (H.push (.cells os t)) :=
  calls_lift (q := only b) (bs := [3]) (A := [(H.next, .cells os t)]) (Hc := ⟨1, [(0, .cells es sz)]⟩) (H := H) (within_only hes hm) ha hv (fun k o2 hk => by
    simp only [List.mem_singleton, Prod.mk.injEq] at hk
    obtain ⟨rfl, rfl⟩ := hk
    exact ⟨3, _, hH1, rfl, by simp [renO, rens_flat hos]⟩) (fun j hj => by
    simp only [List.mem_singleton] at hj
    subst hj
    show 1 ≤ 3
    omega) hc
section
variable {cs : List Value} {sz c : Nat} {hs : List Th} {x y r : Int}
theorem ring_bad (hx : ThAt cs 0 hs) (hn : hs.length < 900000) (hcs : inns 0 cs = true) (hb : ∃ h ∈ hs, h.small = false) : FlatCall Tryz.prog 6 (maArgs hs.length c x y r) ⟨1, [(0, .cells cs sz)]⟩ (.bool true) := by
  have h31n : FlatCall Tryz.prog 31 [.slice (some ⟨0, 0, none⟩) hs.length c] ⟨2, [(1, .cells [.int .i16 x, .int .i16 y] 0), (0, .cells cs sz)]⟩ (ofV nilS false) := FlatCall.one (b := 0) (of_call_bad (sz := sz) (c := c) hx hn hb) hcs (by simp) rfl
  have h : evTop (maR la0 [(30, saysV (.bool true) (saysR Tryz.prog 30 (.bool true)))] [(31, saysM (ofV nilS false) (saysR Tryz.prog 31 (ofV nilS false)))]) 60 noL 1 232 (codeOf 6) (enumE 0 (maArgs hs.length c x y r)) ⟨1, [(0, .cells cs sz)]⟩ (takeC [6] [] fun ex e O => some (ex, e, O)) = some (.ret, [(6, .bool true)], []) := by
    unfold maR
    refine (ma_bad ..).trans ?_
    rw [says_eq (awake_call _), says_eq h31n, of2_eq, forceN_eq]
    cases decide (((hs.length : Nat) : Int) > 50) <;> rfl
  exact fun_flat (C := maR la0 [(30, saysV (.bool true) (saysR Tryz.prog 30 (.bool true)))] [(31, saysM (ofV nilS false) (saysR Tryz.prog 31 (ofV nilS false)))]) (args := maArgs hs.length c x y r) (H := ⟨1, [(0, .cells cs sz)]⟩) (maR_ok _ (.cons (says_ok rfl) h30 .nil) (.cons (saysM_ok rfl) h31 .nil)) zm_ok Tryz.func6 ma_body
    (fun a _ => noL_ok) (Nat.le_of_ble_eq_true rfl) h (.inr rfl) (vs := [.bool true]) rfl rfl
theorem ring_none (hcs : inns 0 cs = true) (hr : r ≤ 40000) : FlatCall Tryz.prog 6 (maArgs 0 c x y r) ⟨1, [(0, .cells cs sz)]⟩ (.bool true) := by
  have h31' : FlatCall Tryz.prog 31 [.slice (some ⟨0, 0, none⟩) 0 c] ⟨2, [(1, .cells [.int .i16 x, .int .i16 y] 0), (0, .cells cs sz)]⟩ (ofV nilS true) := FlatCall.one (b := 0) (of_call_empty (cs := cs) (sz := sz) (c := c)) hcs (by simp) rfl
  have h : evTop (maN fiReal (rI .i64) (rI .u8) rC rSt (rAp Tryz.prog) smB of2 lengthK sclK timesK nearK (saysR Tryz.prog 30 (.bool true)) (saysR Tryz.prog 31 (ofV nilS true)) (saysR Tryz.prog 34 (thV_ nilS 0)) (saysR Tryz.prog 35 (thV_ nilS 0)) (saysR Tryz.prog 36 (roV 0 0 0)) (saysR Tryz.prog 37 (reV 0 0 0))) 60
      (rollL (maN fiReal (rI .i64) (rI .u8) rC rSt (rAp Tryz.prog) smB of2 lengthK sclK timesK nearK (saysR Tryz.prog 30 (.bool true)) (saysR Tryz.prog 31 (ofV nilS true)) (saysR Tryz.prog 34 (thV_ nilS 0)) (saysR Tryz.prog 35 (thV_ nilS 0)) (saysR Tryz.prog 36 (roV 0 0 0)) (saysR Tryz.prog 37 (reV 0 0 0))) 10)
      1 232 (codeOf 6) (enumE 0 (maArgs 0 c x y r)) ⟨1, [(0, .cells cs sz)]⟩ (takeC [6] [] fun ex e O => some (ex, e, O)) = some (.ret, [(6, .bool true)], []) := by
    refine (ma_nil ..).trans ?_
    rw [says_eq (awake_call _), says_eq h31', of2_eq, forceN_eq]
    by_cases h1 : r < 1
    · rw [decide_eq_true h1]; rfl
    rw [decide_eq_false h1, cond_false, smB_eq]
    cases hsm : smI x y with
    | false => rfl
    | true =>
      rw [cond_true]
      have hF := fits_of hsm (by omega) hr
      obtain ⟨S, _⟩ := sight_of hsm (by omega) hr
      refine (says_eq (nil_call hF S.ht (fun R wi k => nil_34 R wi _ _ _ k))).trans ?_
      refine (says_eq (nil_call hF S.ht (fun R wi k => nil_35 R wi _ _ _ k))).trans ?_
      refine (says_eq (nil_call hF S.ht (fun R wi k => nil_36 R wi _ _ _ k))).trans ?_
      refine (says_eq (nil_call hF S.ht (fun R wi k => nil_37 R wi _ _ _ k))).trans ?_
      unfold timesK
      rw [forceN_eq]
      unfold sclK
      have z0 : Is 0 0 := is_zero
      have zn : Is (Op.negFloat .f64 0) 0 := by have := neg_is z0; rw [show -(0 : Rat) = 0 by grind] at this; exact this
      have zm : (0 * pi2V).abs < (2 : Rat) ^ (1023 : Int) := lt_big (by rw [show 0 * pi2V = 0 by grind, abs_zero]; grind)
      obtain ⟨w1, W1, e1, i1, q1⟩ := mul_is zn is_pi2 zm
      obtain ⟨w2, W2, e2, i2, q2⟩ := mul_is z0 is_pi2 zm
      have hW1 := rnd_zero' q1 (by grind)
      have hW2 := rnd_zero' q2 (by grind)
      subst hW1
      subst hW2
      simp only
      rw [bindF_eq e1, bindF_eq e2, near_noughts z0 z0 i1 i2 z0 Rat.le_refl]
      rfl
  exact fun_flat (args := maArgs 0 c x y r) (H := ⟨1, [(0, .cells cs sz)]⟩) (maR_ok la0 (.cons (says_ok rfl) h30 (.cons (says_ok rfl) h36 (.cons (says_ok rfl) h37 .nil))) (.cons (saysM_ok rfl) h31 (.cons (saysM_ok rfl) h34 (.cons (saysM_ok rfl) h35 .nil)))) zm_ok Tryz.func6 ma_body
    (fun a _ => rollL_ok (maR_ok la0 (.cons (says_ok rfl) h30 (.cons (says_ok rfl) h36 (.cons (says_ok rfl) h37 .nil))) (.cons (saysM_ok rfl) h31 (.cons (saysM_ok rfl) h34 (.cons (saysM_ok rfl) h35 .nil)))) zm_ok 10 a) (Nat.le_of_ble_eq_true rfl) h (.inr rfl) (vs := [.bool true]) rfl rfl
/-- what of leaves -/
theorem of_leaves (hx : ThAt cs 0 hs) (hn : hs.length < 900000) (h0 : 0 < hs.length) (hcs : inns 0 cs = true) (hsm : ∀ h ∈ hs, h.small = true) {e : Int} {b : Bool} (hb : (e == 0) = b) (hck : FlatCall Tryz.prog 107 [flowV 0 hs.length hs.length] ⟨1, [(0, .cells (cellsOf (els hs)) 4)]⟩ (.int .i64 e)) :
    MemCall Tryz.prog 31 [.slice (some ⟨0, 0, none⟩) hs.length c] ⟨2, [(1, .cells [.int .i16 x, .int .i16 y] 0), (0, .cells cs sz)]⟩ (ofV (sl3 2 hs.length) b) (AH.push ⟨2, [(1, .cells [.int .i16 x, .int .i16 y] 0), (0, .cells cs sz)]⟩ (.cells (cellsOf (els hs)) 4)) := by
  obtain ⟨H1, hH1, hc⟩ := of_call_good (sz := sz) (c := c) hx hn h0 hsm hck
  rw [hb] at hc
  exact lift_list (b := 0) (v := fun k => ofV (sl3 k hs.length) b) hcs (row_cells _).2.1 (by simp) rfl rfl hH1 hc
theorem ring_badc (hn : hs.length < 900000) (hI : MemCall Tryz.prog 31 [.slice (some ⟨0, 0, none⟩) hs.length c] ⟨2, [(1, .cells [.int .i16 x, .int .i16 y] 0), (0, .cells cs sz)]⟩ (ofV (sl3 2 hs.length) false) (AH.push ⟨2, [(1, .cells [.int .i16 x, .int .i16 y] 0), (0, .cells cs sz)]⟩ (.cells (cellsOf (els hs)) 4))) :
    FlatCall Tryz.prog 6 (maArgs hs.length c x y r) ⟨1, [(0, .cells cs sz)]⟩ (.bool true) := by
  have h : evTop (maR la6 [(30, saysV (.bool true) (saysR Tryz.prog 30 (.bool true)))] [(31, leavesV 4 (fun b => ofV (sl3 b hs.length) false) (leavesR Tryz.prog 31 4 (fun b => ofV (sl3 b hs.length) false) (cellsOf (els hs))))]) 60 noL 1 232 (codeOf 6) (enumE 0 (maArgs hs.length c x y r)) ⟨1, [(0, .cells cs sz)]⟩ (takeC [6] [] fun ex e O => some (ex, e, O)) = some (.ret, [(6, .bool true)], []) := by
    unfold maR
    refine (ma_badc ..).trans ?_
    rw [says_eq (awake_call _), leaves_eq hI, of2_eq, forceN_eq]
    cases decide (((hs.length : Nat) : Int) > 50) <;> rfl
  exact fun_flat (args := maArgs hs.length c x y r) (H := ⟨1, [(0, .cells cs sz)]⟩) (maR_ok la6 (.cons (says_ok rfl) h30 .nil) (.cons leaves_ok h31 .nil)) zm_ok Tryz.func6 ma_body
    (fun a _ => noL_ok) (Nat.le_of_ble_eq_true rfl) h (.inr rfl) (vs := [.bool true]) rfl rfl
theorem ring_err (hI : MemCall Tryz.prog 31 [.slice (some ⟨0, 0, none⟩) hs.length c] ⟨2, [(1, .cells [.int .i16 x, .int .i16 y] 0), (0, .cells cs sz)]⟩ (ofV (sl3 2 hs.length) true) (AH.push ⟨2, [(1, .cells [.int .i16 x, .int .i16 y] 0), (0, .cells cs sz)]⟩ (.cells (cellsOf (els hs)) 4)))
    (hw : hs.length ≤ 50 → ¬ r < 1 → smI x y = true → ∀ f, f = 34 ∨ f = 35 → FlatCall Tryz.prog f [.agg ⟨[sl3 2 hs.length]⟩, ciV (fI x) (fI y) (fI r)] ⟨5, [(4, .cells [.complex .f64 (fI x) (fI y), .float .f64 (fI r)] 0), (3, .cells [sl3 2 hs.length] 0), (2, .cells (cellsOf (els hs)) 4), (1, .cells [.int .i16 x, .int .i16 y] 0), (0, .cells cs sz)]⟩ (thV_ nilS 210)) :
    FlatCall Tryz.prog 6 (maArgs hs.length c x y r) ⟨1, [(0, .cells cs sz)]⟩ (.bool true) := by
  have h : evTop (maR la6 [(30, saysV (.bool true) (saysR Tryz.prog 30 (.bool true)))] [(31, leavesV 4 (fun b => ofV (sl3 b hs.length) true) (leavesR Tryz.prog 31 4 (fun b => ofV (sl3 b hs.length) true) (cellsOf (els hs)))), (34, saysM (thV_ nilS 210) (saysR Tryz.prog 34 (thV_ nilS 210))), (35, saysM (thV_ nilS 210) (saysR Tryz.prog 35 (thV_ nilS 210)))]) 60 noL 1 232 (codeOf 6) (enumE 0 (maArgs hs.length c x y r)) ⟨1, [(0, .cells cs sz)]⟩ (takeC [6] [] fun ex e O => some (ex, e, O)) = some (.ret, [(6, .bool true)], []) := by
    unfold maR
    refine (ma_err ..).trans ?_
    rw [says_eq (awake_call _), leaves_eq hI, of2_eq, forceN_eq]
    by_cases h1 : ((hs.length : Nat) : Int) > 50
    · rw [decide_eq_true h1]; rfl
    rw [decide_eq_false h1, cond_false]
    by_cases h2 : r < 1
    · rw [decide_eq_true h2]; rfl
    rw [decide_eq_false h2, cond_false, smB_eq]
    cases hsm : smI x y with
    | false => rfl
    | true =>
      rw [cond_true]
      refine (says_eq (hw (by omega) h2 hsm 34 (.inl rfl))).trans ?_
      exact says_eq (hw (by omega) h2 hsm 35 (.inr rfl))
  exact fun_flat (args := maArgs hs.length c x y r) (H := ⟨1, [(0, .cells cs sz)]⟩) (maR_ok la6 (.cons (says_ok rfl) h30 .nil) (.cons leaves_ok h31 (.cons (saysM_ok rfl) h34 (.cons (saysM_ok rfl) h35 .nil)))) zm_ok Tryz.func6 ma_body
    (fun a _ => noL_ok) (Nat.le_of_ble_eq_true rfl) h (.inr rfl) (vs := [.bool true]) rfl rfl
/-- the two lists -/
theorem side_none {f : Nat} {w : Int} (S : Sight (fI x) (fI y) (fI r)) (hfw : (f = 34 ∧ w = -1) ∨ (f = 35 ∧ w = 1)) (hcl : FlatCall Tryz.prog 192 [flowV 0 hs.length hs.length, ciV (fI x) (fI y) (fI r), .bool false] ⟨1, [(0, .cells (cellsOf (els hs)) 4)]⟩ (.int .i64 0))
    (hn : hs.length < 900000) (hsee : ∀ X ∈ els hs, Seen (fI x) (fI y) S.lw X) (h0 : sites S w (els hs) (els hs).length = []) : FlatCall Tryz.prog f [flowV 0 hs.length hs.length, ciV (fI x) (fI y) (fI r)] ⟨1, [(0, .cells (cellsOf (els hs)) 4)]⟩ (thV_ nilS 0) := by
  obtain ⟨H1, _, hc⟩ := those_ok (w := w) (c := hs.length) (sz := 4) S (elsAt_cells (els hs)) (by rw [els_length]; exact hn) hsee (row_cells _).2.1 (by rw [els_length]; exact hcl)
  rw [h0] at hc
  have := flat_of_next (P := Tryz.prog) (v := thV_ nilS 0) rfl hc
  rw [els_length] at this
  exact inside_flat hfw (row_cells _).2.1 this
theorem side_some {f : Nat} {w : Int} (S : Sight (fI x) (fI y) (fI r)) (hfw : (f = 34 ∧ w = -1) ∨ (f = 35 ∧ w = 1)) (hcl : FlatCall Tryz.prog 192 [flowV 0 hs.length hs.length, ciV (fI x) (fI y) (fI r), .bool false] ⟨1, [(0, .cells (cellsOf (els hs)) 4)]⟩ (.int .i64 0))
    (hn : hs.length < 900000) (hsee : ∀ X ∈ els hs, Seen (fI x) (fI y) S.lw X) (h0 : sites S w (els hs) (els hs).length ≠ []) {H : AH} (hm : (2, .cells (cellsOf (els hs)) 4) ∈ H.objs) :
    MemCall Tryz.prog f [.agg ⟨[sl3 2 hs.length]⟩, ciV (fI x) (fI y) (fI r)] H (thV_ (slB (sites S w (els hs) (els hs).length).length H.next) 0) (H.push (.cells (ints (sites S w (els hs) (els hs).length)) 1)) := by
  obtain ⟨H1, hO, hc⟩ := those_ok (w := w) (c := hs.length) (sz := 4) S (elsAt_cells (els hs)) (by rw [els_length]; exact hn) hsee (row_cells _).2.1 (by rw [els_length]; exact hcl)
  cases hj : sites S w (els hs) (els hs).length with
  | nil => exact absurd hj h0
  | cons j0 js =>
    have hO' := hO j0 js hj
    rw [hj, els_length] at hc
    obtain ⟨H2, hO2, hc2⟩ := inside_mem hfw (j := (j0 :: js).length) (os := ints (j0 :: js)) (ints_flat _) (row_cells (els hs)).2.1 hO' hc
    exact lift_list (b := 2) (v := fun k => thV_ (slB (j0 :: js).length k) 0) (row_cells _).2.1 (ints_flat _) hm rfl rfl hO2 hc2
/-- RINGAPART -/
theorem ring_call (hx : ThAt cs 0 hs) (hn : hs.length < 900000) (hcs : inns 0 cs = true) (hp : ∀ h ∈ hs, h.p.natAbs ≤ 1000) (hr : r ≤ 40000) : FlatCall Tryz.prog 6 (maArgs hs.length c x y r) ⟨1, [(0, .cells cs sz)]⟩ (.bool true) := by
  by_cases hb : ∃ h ∈ hs, h.small = false
  · exact ring_bad hx hn hcs hb
  have hsm : ∀ h ∈ hs, h.small = true := fun h hm => by
    cases e : h.small with
    | true => rfl
    | false => exact absurd ⟨h, hm, e⟩ hb
  have hf : ∀ h ∈ hs, FineT h := fun h hm => ⟨hsm h hm, hp h hm⟩
  rcases Nat.eq_zero_or_pos hs.length with h0 | h0
  · rw [h0]; exact ring_none hcs hr
  have hck := check_callE (sz := 4) (c := hs.length) (er := erE) (elsAt_cells (els hs)) (fun _ X hX => by
    unfold els at hX
    obtain ⟨h, h1, rfl⟩ := List.mem_map.1 hX
    exact erE_told (hf h h1))
  rw [els_length] at hck
  by_cases he : flowEr erE (els hs) = 0
  · have hI := of_leaves (c := c) (sz := sz) (x := x) (y := y) hx hn h0 hcs hsm (b := true) (by rw [he]; rfl) hck
    have hall : ∀ h ∈ hs, erE h.el = 0 := fun h hm => flowEr_all he _ (by unfold els; exact List.mem_map_of_mem hm)
    by_cases hgood : hs.length ≤ 50 ∧ ¬ r < 1 ∧ smI x y = true ∧ True
    · obtain ⟨g1, g2, g3, _⟩ := hgood
      have hF := fits_of g3 (by omega) hr
      obtain ⟨S, hsee⟩ := sight_of g3 (by omega) hr
      have hseen : ∀ X ∈ els hs, Seen (fI x) (fI y) S.lw X := fun X hX => by
        unfold els at hX
        obtain ⟨h, h1, rfl⟩ := List.mem_map.1 hX
        exact hsee h (hf h h1)
      have hcl := clean_at (sz := 4) (c := hs.length) S (elsAt_cells (els hs)) hf (by omega) (row_cells _).2.1 hF hall (fun h hm => hsee h (hf h hm)) false
      cases hany : (els hs).any (tooNear S) with
      | true =>
        rw [hany] at hcl
        refine ring_err hI fun _ _ _ f hff => ?_
        refine FlatCall.one (argsc := [flowV 0 hs.length hs.length, ciV (fI x) (fI y) (fI r)]) (b := 2) (sz := 4) (cs := cellsOf (els hs)) ?_ (row_cells (els hs)).2.1 (by simp) rfl
        rcases hff with rfl | rfl
        · exact inside_flat (w := -1) (.inl ⟨rfl, rfl⟩) (row_cells _).2.1 (those_err (row_cells _).2.1 hcl)
        · exact inside_flat (w := 1) (.inr ⟨rfl, rfl⟩) (row_cells _).2.1 (those_err (row_cells _).2.1 hcl)
      | false =>
        rw [hany] at hcl
        have hnear : ∀ h ∈ hs, tooNear S h.el = false := fun h hm => by
          have := List.any_eq_false.1 hany h.el (by unfold els; exact List.mem_map_of_mem hm)
          simpa using this
        have hsums := sums_of S hf g1 hF hsee hall hnear
        have hX := round_at (sz := 4) (c := hs.length) S (elsAt_cells (els hs)) hf (by omega) (row_cells _).2.1 hF hsee hall hnear
        have hY := residues_at (sz := 4) (c := hs.length) S (elsAt_cells (els hs)) hf (by omega) (row_cells _).2.1 hF hsee hall hnear
        have hts := turn_same S hf g1
        have hns := near_same S hf g1
        have e := els_length hs
        have hes : inns 0 (cellsOf (els hs)) = true := (row_cells _).2.1
        have res : FlatCall Tryz.prog 6 (maArgs (els hs).length c x y r) ⟨1, [(0, .cells cs sz)]⟩ (.bool true) := by
          rw [← e] at hI hX hY hts hns
          by_cases hn1 : sites S (-1) (els hs) (els hs).length = []
          · have h1 := side_none (f := 34) S (.inl ⟨rfl, rfl⟩) hcl hn hseen hn1
            rw [← e] at h1
            by_cases hn2 : sites S 1 (els hs) (els hs).length = []
            · have h2 := side_none (f := 35) S (.inr ⟨rfl, rfl⟩) hcl hn hseen hn2
              rw [← e] at h2
              exact ma_case_nn S (elsAt_cells _) (by omega) hes hn1 hn2 g2 g3 awake_call hI (FlatCall.one (b := 2) (sz := 4) h1 hes (by simp) rfl) (FlatCall.one (b := 2) (sz := 4) h2 hes (by simp) rfl) hX hY hsums hts.1 hts.2 hns
            · have h2 := side_some (f := 35) (H := ⟨5, [(4, .cells [.complex .f64 (fI x) (fI y), .float .f64 (fI r)] 0), (3, .cells [sl3 2 (els hs).length] 0), (2, .cells (cellsOf (els hs)) 4), (1, .cells [.int .i16 x, .int .i16 y] 0), (0, .cells cs sz)]⟩) S (.inr ⟨rfl, rfl⟩) hcl hn hseen hn2 (by simp)
              rw [← e] at h2
              exact ma_case_ns S (elsAt_cells _) (by omega) hes hn1 g2 g3 awake_call hI (FlatCall.one (b := 2) (sz := 4) h1 hes (by simp) rfl) h2 hX hY hsums hts.1 hts.2 hns
          · have h1 := side_some (f := 34) (H := ⟨5, [(4, .cells [.complex .f64 (fI x) (fI y), .float .f64 (fI r)] 0), (3, .cells [sl3 2 (els hs).length] 0), (2, .cells (cellsOf (els hs)) 4), (1, .cells [.int .i16 x, .int .i16 y] 0), (0, .cells cs sz)]⟩) S (.inl ⟨rfl, rfl⟩) hcl hn hseen hn1 (by simp)
            rw [← e] at h1
            by_cases hn2 : sites S 1 (els hs) (els hs).length = []
            · have h2 := side_none (f := 35) S (.inr ⟨rfl, rfl⟩) hcl hn hseen hn2
              rw [← e] at h2
              exact ma_case_sn S (elsAt_cells _) (by omega) hes hn2 g2 g3 awake_call hI h1 (FlatCall.one (b := 2) (sz := 4) h2 hes (by simp) rfl) hX hY hsums hts.1 hts.2 hns
            · have h2 := side_some (f := 35) (H := ⟨6, [(5, .cells (ints (sites S (-1) (els hs) (els hs).length)) 1), (4, .cells [.complex .f64 (fI x) (fI y), .float .f64 (fI r)] 0), (3, .cells [sl3 2 (els hs).length] 0), (2, .cells (cellsOf (els hs)) 4), (1, .cells [.int .i16 x, .int .i16 y] 0), (0, .cells cs sz)]⟩) S (.inr ⟨rfl, rfl⟩) hcl hn hseen hn2 (by simp)
              rw [← e] at h2
              exact ma_case_ss S (elsAt_cells _) (by omega) hes g2 g3 awake_call hI h1 h2 hX hY hsums hts.1 hts.2 hns
        rw [e] at res
        exact res
    · exact ring_err hI fun a b d => absurd ⟨a, b, d, trivial⟩ hgood
  · exact ring_badc hn (of_leaves (c := c) (sz := sz) (x := x) (y := y) hx hn h0 hcs hsm (b := false) (by simpa using he) hck)
end
end Go.Vm
namespace Go.Vm
open Go.Proofs Ieee
set_option linter.unusedVariables false
set_option linter.unusedSimpArgs false
set_option maxRecDepth 1000000

/-! ### RingApart of no things, wherever they would lie -/
def maArgsV (v : Value) (x y r : Int) : List Value := [v, .agg ⟨[.int .i16 x, .int .i16 y]⟩, .int .i16 r]
def maNE (x y : Int) (c1 c2 rr : Nat) : AH := ⟨4, [(3, .cells [.complex .f64 c1 c2, .float .f64 rr] 0), (2, .cells [nilS] 0), (1, .cells [.int .i16 x, .int .i16 y] 0)]⟩
def maNR (fi : Fi) (R : Type) (sm : KG2B) (of : KG2C) (sc : KCFC) (ti : KCC) (ne : KCCFB) (ga g0 g1 g2 gx gy : HT) (v : Value) (x y r : Int) (K : Ex → Env → Objs → Option R) : Option R :=
  ga R [] ⟨2, [(1, .cells [.int .i16 x, .int .i16 y] 0)]⟩ <| g0 R [v] ⟨2, [(1, .cells [.int .i16 x, .int .i16 y] 0)]⟩ <| of R x y fun c1 c2 => forceN (floatOfInt .f64 r) fun rr =>
      bif decide (r < 1) then K .ret [(6, .bool true)] [] else sm R x y fun t => bif t then
        g1 R [.agg ⟨[nilS]⟩, ciV c1 c2 rr] (maNE x y c1 c2 rr) <|
        g2 R [.agg ⟨[nilS]⟩, ciV c1 c2 rr] (maNE x y c1 c2 rr) <|
        gx R [.agg ⟨[nilS]⟩, ciV c1 c2 rr] (maNE x y c1 c2 rr) <|
        gy R [.agg ⟨[nilS]⟩, ciV c1 c2 rr] (maNE x y c1 c2 rr) <|
        ti R 0 0 fun a b => sc R a b 4618760256179416344 fun a b => ne R 0 0 a b 0 fun t => bif t then K .ret [(6, .bool true)] [] else K .ret [(6, .bool false)] []
      else K .ret [(6, .bool true)] []
section
variable (fi : Fi) (R : Type) (gi gk : GI) (gc : GC) (st : St) (ap : Ap) (sm : KG2B) (of : KG2C) (len : KCF) (sc : KCFC) (ti : KCC) (ne : KCCFB) (ga g0 g1 g2 gx gy : HT)
  (c : Nat) (x y r : Int) (K : Ex → Env → Objs → Option R)
theorem ma_nilS : evTop (maN fi gi gk gc st ap sm of len sc ti ne ga g0 g1 g2 gx gy) 60 (rollL (maN fi gi gk gc st ap sm of len sc ti ne ga g0 g1 g2 gx gy) 10) 1 232 (codeOf 6) (enumE 0 (maArgsV (.slice (some ⟨0, 0, none⟩) 0 c) x y r)) ⟨1, []⟩ (takeC [6] [] K) =
    maNR fi R sm of sc ti ne ga g0 g1 g2 gx gy (.slice (some ⟨0, 0, none⟩) 0 c) x y r K := by kernel_rfl
theorem ma_nilN : evTop (maN fi gi gk gc st ap sm of len sc ti ne ga g0 g1 g2 gx gy) 60 (rollL (maN fi gi gk gc st ap sm of len sc ti ne ga g0 g1 g2 gx gy) 10) 1 232 (codeOf 6) (enumE 0 (maArgsV nilS x y r)) ⟨1, []⟩ (takeC [6] [] K) =
    maNR fi R sm of sc ti ne ga g0 g1 g2 gx gy nilS x y r K := by kernel_rfl
end
theorem of_slice (c : Nat) : FlatCall Tryz.prog 31 [.slice (some ⟨0, 0, none⟩) 0 c] ⟨1, []⟩ (ofV nilS true) := by
  have h : evTop (cxm Tryz.prog hot) 60 (rollL (cxm Tryz.prog hot) 30) 1 62 (codeOf 31) (enumE 0 [.slice (some ⟨0, 0, none⟩) 0 c]) ⟨1, []⟩ (takeC [2, 3] [1] fun ex e O => some (ex, e, O)) = some (.ret, [(2, .pointer (some ⟨1, 0, none⟩)), (3, .bool true)], [(1, .cells [.slice none 0 0] 0)]) := by kernel_rfl
  exact fun_flat (C := cxm Tryz.prog hot) (args := [.slice (some ⟨0, 0, none⟩) 0 c]) (H := ⟨1, []⟩) (cxm_ok hot_ok) zm_ok Tryz.func31 of_body (fun a _ => rollL_ok (cxm_ok hot_ok) zm_ok 30 a) (Nat.le_of_ble_eq_true rfl) h (.inr rfl) (vs := [.agg ⟨[nilS]⟩, .bool true]) rfl rfl
theorem of_nil (H : AH) : FlatCall Tryz.prog 31 [nilS] H (ofV nilS true) := flat_of_fn rfl (by kernel_rfl)
theorem ring_none' {v : Value} {x y r : Int} (hv : ∀ H : AH, H.next = 2 → FlatCall Tryz.prog 31 [v] H (ofV nilS true)) (hr : r ≤ 40000)
    (heq : ∀ K : Ex → Env → Objs → Option (Ex × Env × Objs), evTop (maN fiReal (rI .i64) (rI .u8) rC rSt (rAp Tryz.prog) smB of2 lengthK sclK timesK nearK (saysR Tryz.prog 30 (.bool true)) (saysR Tryz.prog 31 (ofV nilS true)) (saysR Tryz.prog 34 (thV_ nilS 0)) (saysR Tryz.prog 35 (thV_ nilS 0)) (saysR Tryz.prog 36 (roV 0 0 0)) (saysR Tryz.prog 37 (reV 0 0 0))) 60
        (rollL (maN fiReal (rI .i64) (rI .u8) rC rSt (rAp Tryz.prog) smB of2 lengthK sclK timesK nearK (saysR Tryz.prog 30 (.bool true)) (saysR Tryz.prog 31 (ofV nilS true)) (saysR Tryz.prog 34 (thV_ nilS 0)) (saysR Tryz.prog 35 (thV_ nilS 0)) (saysR Tryz.prog 36 (roV 0 0 0)) (saysR Tryz.prog 37 (reV 0 0 0))) 10)
        1 232 (codeOf 6) (enumE 0 (maArgsV v x y r)) ⟨1, []⟩ (takeC [6] [] K) = maNR fiReal _ smB of2 sclK timesK nearK (saysR Tryz.prog 30 (.bool true)) (saysR Tryz.prog 31 (ofV nilS true)) (saysR Tryz.prog 34 (thV_ nilS 0)) (saysR Tryz.prog 35 (thV_ nilS 0)) (saysR Tryz.prog 36 (roV 0 0 0)) (saysR Tryz.prog 37 (reV 0 0 0)) v x y r K) :
    FlatCall Tryz.prog 6 (maArgsV v x y r) ⟨1, []⟩ (.bool true) := by
  have h := heq fun ex e O => some (ex, e, O)
  have goal : maNR fiReal _ smB of2 sclK timesK nearK (saysR Tryz.prog 30 (.bool true)) (saysR Tryz.prog 31 (ofV nilS true)) (saysR Tryz.prog 34 (thV_ nilS 0)) (saysR Tryz.prog 35 (thV_ nilS 0)) (saysR Tryz.prog 36 (roV 0 0 0)) (saysR Tryz.prog 37 (reV 0 0 0)) v x y r (fun ex e O => some (ex, e, O)) = some (.ret, [(6, .bool true)], []) := by
    unfold maNR
    rw [says_eq (awake_call _), says_eq (hv _ rfl), of2_eq, forceN_eq]
    by_cases h1 : r < 1
    · rw [decide_eq_true h1]; rfl
    rw [decide_eq_false h1, cond_false, smB_eq]
    cases hsm : smI x y with
    | false => rfl
    | true =>
      rw [cond_true]
      have hF := fits_of hsm (by omega) hr
      obtain ⟨S, _⟩ := sight_of hsm (by omega) hr
      refine (says_eq (nil_call hF S.ht (fun R wi k => nil_34 R wi _ _ _ k))).trans ?_
      refine (says_eq (nil_call hF S.ht (fun R wi k => nil_35 R wi _ _ _ k))).trans ?_
      refine (says_eq (nil_call hF S.ht (fun R wi k => nil_36 R wi _ _ _ k))).trans ?_
      refine (says_eq (nil_call hF S.ht (fun R wi k => nil_37 R wi _ _ _ k))).trans ?_
      unfold timesK
      rw [forceN_eq]
      unfold sclK
      have z0 : Is 0 0 := is_zero
      have zn : Is (Op.negFloat .f64 0) 0 := by have := neg_is z0; rw [show -(0 : Rat) = 0 by grind] at this; exact this
      have zm : (0 * pi2V).abs < (2 : Rat) ^ (1023 : Int) := lt_big (by rw [show 0 * pi2V = 0 by grind, abs_zero]; grind)
      obtain ⟨w1, W1, e1, i1, q1⟩ := mul_is zn is_pi2 zm
      obtain ⟨w2, W2, e2, i2, q2⟩ := mul_is z0 is_pi2 zm
      have hW1 := rnd_zero' q1 (by grind)
      have hW2 := rnd_zero' q2 (by grind)
      subst hW1
      subst hW2
      simp only
      rw [bindF_eq e1, bindF_eq e2, near_noughts z0 z0 i1 i2 z0 Rat.le_refl]
      rfl
  rw [goal] at h
  exact fun_flat (args := maArgsV v x y r) (H := ⟨1, []⟩) (maR_ok la0 (.cons (says_ok rfl) h30 (.cons (says_ok rfl) h36 (.cons (says_ok rfl) h37 .nil))) (.cons (saysM_ok rfl) h31 (.cons (saysM_ok rfl) h34 (.cons (saysM_ok rfl) h35 .nil)))) zm_ok Tryz.func6 ma_body
    (fun a _ => rollL_ok (maR_ok la0 (.cons (says_ok rfl) h30 (.cons (says_ok rfl) h36 (.cons (says_ok rfl) h37 .nil))) (.cons (saysM_ok rfl) h31 (.cons (saysM_ok rfl) h34 (.cons (saysM_ok rfl) h35 .nil)))) zm_ok 10 a) (Nat.le_of_ble_eq_true rfl) h (.inr rfl) (vs := [.bool true]) rfl rfl
end Go.Vm
namespace Go.Vm
open Go.Proofs Go.ChangeShapes Go.WideShapes Go.ChangeAt Go.RowKit Go.Deep
set_option linter.unusedVariables false
set_option linter.unusedSimpArgs false
set_option maxRecDepth 100000

/-! ### RingApart's arguments are opened -/
theorem within_empty {H : AH} : Within (only 0) ⟨1, []⟩ H := ⟨fun j o h => by simp at h, fun j o h => by simp at h, fun j o o' h h' => by simp at h, fun j j' k h1 h2 => by rw [(only_some h1).1, (only_some h2).1], fun j k h => by rw [(only_some h).1]; exact Nat.zero_lt_one⟩
theorem of_slice2 (c : Nat) (H : AH) : FlatCall Tryz.prog 31 [.slice (some ⟨0, 0, none⟩) 0 c] H (ofV nilS true) := calls_pull (q := only 0) within_empty rfl (of_slice c)
theorem inns_all : ∀ {l : List Value}, (∀ v ∈ l, inn 0 v = true) → inns 0 l = true
  | [], _ => rfl
  | v :: r, h => by
    simp only [inns, Bool.and_eq_true]
    exact ⟨h v (by simp), inns_all fun u hu => h u (by simp [hu])⟩
theorem Th.cs_len (h : Th) : h.cs.length = 6 := rfl
instance : Inhabited Th := ⟨⟨0, 0, 0, 0, 0, 0⟩⟩
section
variable {H : Type} {enc : TypeId × Value → H} {w : World} {base : Nat} {spare : Nat → Bool} {held : Bool}
theorem wf_int {k : IntKind} {n : Int} (h : (Lit.int k n).wf = true) : k.min ≤ n ∧ n ≤ k.max := by
  simpa [Lit.wf] using h
theorem gauss_open {fuel : Nat} {cs : List Value} {x : DataW H × List MemPlace} (h : DataW.trod enc Tryz.prog w base spare held fuel 54 cs = some x) :
    ∃ m n : Int, cs = [.int .i16 m, .int .i16 n] ∧ x.2 = [] := by
  obtain ⟨y0, y1, k, rfl, hl, h0, h1⟩ := trod_struct2 Tryz.underlying54 h
  obtain ⟨m, e0, rfl, _⟩ := DataW.trod_int Tryz.underlying22 h0
  obtain ⟨n, e1, rfl, _⟩ := DataW.trod_int Tryz.underlying22 h1
  have hl' : cs.length = 2 := hl
  match cs, hl' with
  | [a, b], _ =>
    have e0' : [a] = [Value.int .i16 m] := e0
    have e1' : [b] = [Value.int .i16 n] := e1
    simp only [List.cons.injEq, and_true] at e0' e1'
    subst e0' e1'
    exact ⟨m, n, rfl, rfl⟩
theorem thing_open {fuel : Nat} {cs : List Value} {x : DataW H × List MemPlace} (h : DataW.trod enc Tryz.prog w base spare held fuel 145 cs = some x) :
    ∃ (t : Th) (a b c d : DataW H), cs = t.cs ∧ t.p.natAbs ≤ 1000 ∧ x = (.agg [a, b, c, d], []) := by
  obtain ⟨y0, y1, y2, y3, k, rfl, hl, h0, h1, h2, h3⟩ := Go.Joins.trod_struct4 Tryz.underlying145 h
  obtain ⟨kind, e0, rfl, _⟩ := DataW.trod_int Tryz.underlying5 h0
  obtain ⟨m1, n1, e1, g1⟩ := gauss_open h1
  obtain ⟨m2, n2, e2, g2⟩ := gauss_open h2
  obtain ⟨p, e3, rfl, hp⟩ := DataW.trod_int Tryz.underlying143 h3
  have hl' : cs.length = 6 := hl
  match cs, hl' with
  | [a, b, c, d, e, f], _ =>
    have e0' : [a] = [Value.int .u8 kind] := e0
    have e1' : [b, c] = [Value.int .i16 m1, .int .i16 n1] := e1
    have e2' : [d, e] = [Value.int .i16 m2, .int .i16 n2] := e2
    have e3' : [f] = [Value.int .i8 p] := e3
    simp only [List.cons.injEq, and_true] at e0' e1' e2' e3'
    obtain ⟨rfl, rfl⟩ := e1'
    obtain ⟨rfl, rfl⟩ := e2'
    subst e0' e3'
    have hp' := wf_int hp
    have a1 : IntKind.i8.min = -128 := rfl
    have a2 : IntKind.i8.max = 127 := rfl
    refine ⟨⟨kind, m1, n1, m2, n2, p⟩, .lit (.int .u8 kind), y1.1, y2.1, .lit (.int .i8 p), rfl, by show p.natAbs ≤ 1000; omega, ?_⟩
    rw [g1, g2]
    rfl
end
/-- a list of things that lies in memory -/
theorem things_at {W : World} {a : Addr} {n : Nat} {hs : Nat → Th} (ha : a.spot = none) (hn : 0 < n) (hr : ∀ i, i < n → W.cells? 0 (a.add (i * 6)) 6 = some (hs i).cs) (hfz : ∀ j, j < n * 6 → W.frozen? ⟨a.block, a.off + j, none⟩ = false) :
    ∃ cs, ThAt cs 0 ((List.range n).map hs) ∧ inns 0 cs = true ∧ Inv (oneMap ⟨a.block, a.off, 0⟩) ⟨1, [(0, .cells cs 6)]⟩ W := by
  have cellAt : ∀ i j, i < n → j < 6 → W.cell? ⟨a.block, a.off + (i * 6 + j), none⟩ = (hs i).cs[j]? := fun i j hi hj => by
    have := (World.cells?_some (hr i hi)).2.2 j hj
    rw [add_add] at this
    have e : a.add (i * 6 + j) = ⟨a.block, a.off + (i * 6 + j), none⟩ := by
      unfold Addr.add
      split
      · rename_i h0
        rw [h0, Nat.add_zero]
        cases a
        simp only at ha
        subst ha
        rfl
      · rfl
    rw [e] at this
    exact this
  have h00 := cellAt 0 0 hn (by omega)
  have hex : ∃ arr ty fr, W.heap[a.block]? = some (.cells arr ty fr) := by
    unfold World.cell? at h00
    simp only at h00
    split at h00
    · rename_i c e fr hh; exact ⟨_, _, _, hh⟩
    · rename_i hno
      have : (hs 0).cs[0]? = some (.int .u8 (hs 0).kind) := rfl
      rw [this] at h00
      cases h00
  obtain ⟨arr, ty, fr, hb⟩ := hex
  have arrAt : ∀ i j, i < n → j < 6 → arr[a.off + (i * 6 + j)]? = (hs i).cs[j]? := fun i j hi hj => by
    have := cellAt i j hi hj
    unfold World.cell? at this
    simpa [hb] using this
  have some6 : ∀ (t : Th) j, j < 6 → ∃ v, t.cs[j]? = some v ∧ inn 0 v = true := fun t j hj => by
    match j, hj with
    | 0, _ => exact ⟨_, rfl, rfl⟩
    | 1, _ => exact ⟨_, rfl, rfl⟩
    | 2, _ => exact ⟨_, rfl, rfl⟩
    | 3, _ => exact ⟨_, rfl, rfl⟩
    | 4, _ => exact ⟨_, rfl, rfl⟩
    | 5, _ => exact ⟨_, rfl, rfl⟩
  have hsize : a.off + n * 6 ≤ arr.size := by
    have h1 := arrAt (n - 1) 5 (by omega) (by omega)
    obtain ⟨v, hv, _⟩ := some6 (hs (n - 1)) 5 (by omega)
    rw [hv] at h1
    have := (Array.getElem?_eq_some_iff.1 h1).1
    omega
  let cs : List Value := (arr.toList.drop a.off).take (n * 6)
  have hlen : cs.length = n * 6 := by
    show ((arr.toList.drop a.off).take (n * 6)).length = _
    rw [List.length_take, List.length_drop, Array.length_toList]
    omega
  have hget : ∀ k, k < n * 6 → cs[k]? = arr[a.off + k]? := fun k hk => by
    show ((arr.toList.drop a.off).take (n * 6))[k]? = _
    rw [List.getElem?_take_of_lt hk, List.getElem?_drop, Array.getElem?_toList]
  have hthing : ∀ i, i < n → ∃ rest, cs.drop (0 + i * 6) = (hs i).cs ++ rest := fun i hi => by
    refine ⟨cs.drop (i * 6 + 6), ?_⟩
    rw [Nat.zero_add]
    apply List.ext_getElem?
    intro k
    rw [List.getElem?_drop]
    by_cases hk : k < 6
    · rw [List.getElem?_append_left (by rw [Th.cs_len]; exact hk), hget _ (by omega), ← arrAt i k hi hk]
    · rw [List.getElem?_append_right (by rw [Th.cs_len]; omega), List.getElem?_drop, Th.cs_len]
      congr 1
      omega
  have hflat : inns 0 cs = true := inns_all fun v hv => by
    obtain ⟨k, hk, rfl⟩ := List.mem_iff_getElem.1 hv
    rw [hlen] at hk
    have e1 : cs[k]? = some cs[k] := List.getElem?_eq_getElem (by rw [hlen]; exact hk)
    have hd := Nat.div_add_mod k 6
    have hm := Nat.mod_lt k (show 0 < 6 by omega)
    have hq : k / 6 < n := by omega
    rw [hget k hk, show a.off + k = a.off + (k / 6 * 6 + k % 6) by omega, arrAt _ _ hq hm] at e1
    obtain ⟨v, hv1, hv2⟩ := some6 (hs (k / 6)) (k % 6) hm
    rw [hv1] at e1
    rw [← Option.some.inj e1]
    exact hv2
  refine ⟨cs, fun i t hi => ?_, hflat, ⟨fun k hk => ?_, fun k o hm => ?_, fun k o o' h1 h2 => ?_, ⟨fun k o hm => ?_, fun k o k' o' s1 s1' h1 h2 _ _ _ => ?_⟩⟩⟩
  · rw [List.getElem?_map] at hi
    cases hri : (List.range n)[i]? with
    | none => rw [hri] at hi; cases hi
    | some q =>
      rw [hri] at hi
      obtain ⟨hlt, hq⟩ := List.getElem?_eq_some_iff.1 hri
      rw [List.getElem_range] at hq
      subst hq
      rw [List.length_range] at hlt
      cases hi
      exact hthing i hlt
  · have hk1 : 1 ≤ k := hk
    unfold oneMap
    cases hb : Nat.beq k 0 with
    | true => have := Nat.eq_of_beq_eq_true hb; omega
    | false => rfl
  · simp only [List.mem_singleton, Prod.mk.injEq] at hm; show k < 1; omega
  · simp only [List.mem_singleton, Prod.mk.injEq] at h1 h2; rw [h1.2, h2.2]
  · simp only [List.mem_singleton, Prod.mk.injEq] at hm
    obtain ⟨rfl, rfl⟩ := hm
    refine ⟨_, rfl, arr, ty, cs, ⟨⟨fr, hb⟩, fun j hj => hfz j (by simp only [hlen] at hj; omega)⟩, VRels.ofFlat _ hflat, fun i v hv => ?_, ?_, fun h => by cases h⟩
    · have hi := (List.getElem?_eq_some_iff.1 hv).1
      rw [hlen] at hi
      rw [hget i hi] at hv
      exact hv
    · simp only [hlen]; omega
  · simp only [List.mem_singleton, Prod.mk.injEq] at h1 h2; rw [h1.1, h2.1]
end Go.Vm
