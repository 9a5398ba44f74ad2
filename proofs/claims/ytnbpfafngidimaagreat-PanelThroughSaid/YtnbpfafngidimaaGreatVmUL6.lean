/- A part of the evaluator and of what is told of floats; no conditions. -/
import Derived.Test.YtnbpfafngidimaaGreatVmULe1
import Derived.Test.YtnbpfafngidimaaGreatVmV6
import Derived.Test.YtnbpfafngidimaaGreatVmV12
import Derived.Test.YtnbpfafngidimaaGreatVmV1
import Derived.Test.YtnbpfafngidimaaGreatVmUD3
namespace Go.Vm
open Go.Proofs
set_option linter.unusedVariables false
set_option linter.unusedSectionVars false
set_option linter.unusedSimpArgs false
set_option maxRecDepth 1000000

/-! ### PanelThrough's third loop, told -/
noncomputable def sdH (x y : Nat) (e : Int) : KSdH := fun R args H k =>
  open Classical in if FlatCall Tryz.prog 52 args H (.tuple ⟨[.complex .f64 x y, .int .i64 e]⟩) then k x y e else none
theorem sdH_eq {x y : Nat} {e : Int} {R : Type} {args : List Value} {H : AH} {k : Nat → Nat → Int → Option R} (h : FlatCall Tryz.prog 52 args H (.tuple ⟨[.complex .f64 x y, .int .i64 e]⟩)) : sdH x y e R args H k = k x y e := by
  unfold sdH
  rw [if_pos h]
theorem sdH_ok {x y : Nat} {e : Int} : HSumOk Tryz.prog 52 (sSdH (sdH x y e)) := fun R args H k r h => by
  unfold sSdH sdH at h
  split at h
  · rename_i hc; exact ⟨_, h, rfl, hc⟩
  · cases h
theorem cxQ_same {a b : Nat} (ha : Fin a) (hb : Fin b) {R : Type} {k : Bool → Option R} : cxQ a b a b k = k true := by
  unfold cxQ
  rw [forceB_eq, eqF_is (vl_is ha) (vl_is ha), decide_eq_true rfl]
  simp only
  rw [forceB_eq, eqF_is (vl_is hb) (vl_is hb), decide_eq_true rfl]
/-- what the third loop comes to -/
structure ThreeD (n : Nat) (l : Nat → Nat × Nat) (U : Nat → Un) (xs : Nat → Nat) (xy : Nat → Nat × Nat) (sS sC sM : Nat → Nat) : Prop where
  fin : ∀ i, i < n → Fin (l i).1 ∧ Fin (l i).2
  mid : ∀ i, i < n → ∀ (R : Type) (k : Nat → Nat → Option R), halfB (l i).1 (l i).2 (l (nxt n i)).1 (l (nxt n i)).2 k = k (U i).m1 (U i).m2
  s0 : sS 0 = 0
  s : ∀ i, i < n → fbF .add (sS i) (absW (xs i)) = some (sS (i + 1))
  c : ∀ i, i < n → fbF .add (absW (xy i).1) (absW (xy i).2) = some (sC i)
  m0 : sM 0 = 0
  m : ∀ i, i < n → ∀ (R : Type) (k : Value → Option R), maxE (sM i) (sC i) k = k (fl (sM (i + 1)))
theorem nxt_lt {n i : Nat} (h : i < n) : nxt n i < n := by
  unfold nxt
  cases hb : Nat.beq (i + 1) n with
  | true => have := Nat.eq_of_beq_eq_true hb; simp only [cond_true]; omega
  | false =>
    have : i + 1 ≠ n := fun e => by subst e; simp at hb
    simp only [cond_false]
    omega
section
variable {n : Nat} {l : Nat → Nat × Nat} {U : Nat → Un} {xs : Nat → Nat} {xy : Nat → Nat × Nat} {sS sC sM : Nat → Nat} (D : ThreeD n l U xs xy sS sC sM) (Q : ∀ i, i < n → EqL3 n i) (Qx : EqX3 n) {th : Nat} {X : Value} {po o x y : AObj} {t : Bool} {H0 : AH}
  (hs : ∀ i, i < n → FlatCall Tryz.prog 52 [.agg ⟨[X]⟩, .complex .f64 (U i).m1 (U i).m2] (lw3H n (setS (pn n l) xs) po X t o x y l) (.tuple ⟨[.complex .f64 (xy i).1 (xy i).2, .int .i64 0]⟩))
theorem cont_base {C : Cx} (hC : C.Ok) (hm : C.P.follows .mixedOrders = true) {nn lo sz : Nat} {c : Code} (hl : loopsIn c = []) {ts : List Nat} {e : Env} {H : AH} {ex : Ex} {e' : Env} {H' : AH} (h : evTop C nn noL lo sz c e H (contE ts fun ex e H => some (ex, e, H)) = some (ex, e', H')) : BaseOk C.P lo sz H0 e H ex e' H' (fun Q a w => c.wp C.P Q a w) := by
  obtain ⟨ex1, e1, H1, g1, g2⟩ := evTop_sound hC hm c (L := noL) (n := nn) (by rw [hl]; intro a ha; simp at ha) _ _ _ _ h
  unfold contE at g1
  cases g1
  exact BaseOk.env (CodeOk.base @g2) (fun t v h => h) fun t v h => getE_take h
include D Q hs
theorem l3_step {i : Nat} (hi : i < n) : BaseOk Tryz.prog 2 237 H0 (lw3E n th (fl (sS i)) (fl (sM i)) i) (lw3H n (setS (pn n l) xs) po X t o x y l) .normal (lw3E n th (fl (sS (i + 1))) (fl (sM (i + 1))) (i + 1)) (lw3H n (setS (pn n l) xs) po X t o x y l) (fun Q a w => (lwL 2).wp Tryz.prog Q a w) := by
  have h := Q i hi (Ex × Env × AH) (rI .i64) rB at48 absK (sdH (xy i).1 (xy i).2 0) th (sS i) (sM i) X po o x y (setS (pn n l) xs) l t fun ex e H => some (ex, e, H)
  have e1 : ((setS (pn n l) xs i).f1, (setS (pn n l) xs i).f2) = ((l i).1, (l i).2) := rfl
  have h' : evTop (lwC (rI .i64) rB at48 absK [(52, sSdH (sdH (xy i).1 (xy i).2 0))] []) 100 noL 2 237 (lwL 2) (lw3E n th (fl (sS i)) (fl (sM i)) i) (lw3H n (setS (pn n l) xs) po X t o x y l) (contE lw3T fun ex e H => some (ex, e, H)) =
      some (.normal, lw3E n th (fl (sS (i + 1))) (fl (sM (i + 1))) (i + 1), lw3H n (setS (pn n l) xs) po X t o x y l) := by
    refine h.trans ?_
    refine (cxQ_same (D.fin i hi).1 (D.fin i hi).2).trans ?_
    simp only
    refine (cxQ_same (D.fin _ (nxt_lt hi)).1 (D.fin _ (nxt_lt hi)).2).trans ?_
    simp only
    refine (D.mid i hi _ _).trans ?_
    refine (sdH_eq (hs i hi)).trans ?_
    rw [show ((0 : Int) != 0) = false from rfl, cond_false]
    show bindF (fbF .add (sS i) (absW (xs i))) _ = _
    rw [bindF_eq (D.s i hi)]
    show bindF (fbF .add (absW (xy i).1) (absW (xy i).2)) _ = _
    rw [bindF_eq (D.c i hi)]
    exact D.m i hi _ _
  exact cont_base (C := lwR [(52, sSdH (sdH (xy i).1 (xy i).2 0))] []) (lwR_ok (.cons sdH_ok h52 .nil) .nil) zm_ok (lwL_none 2 (by decide)) h'
include Qx
/-- THE THIRD LOOP -/
theorem l3_loop : BaseOk Tryz.prog 2 237 H0 (lw3E n th (fl 0) (fl 0) 0) (lw3H n (setS (pn n l) xs) po X t o x y l) (.exit 4) (lw3E n th (fl (sS n)) (fl (sM n)) n) (lw3H n (setS (pn n l) xs) po X t o x y l) (fun Q a w => Code.wp Tryz.prog (.loop (lwL 2)) Q a w) := by
  have h := Qx (Ex × Env × AH) (rI .i64) rB at48 absK (sdH 0 0 0) th (fl (sS n)) (fl (sM n)) X po o x y (setS (pn n l) xs) l t fun ex e H => some (ex, e, H)
  have hend := cont_base (H0 := H0) (C := lwR [(52, sSdH (sdH 0 0 0))] []) (lwR_ok (.cons sdH_ok h52 .nil) .nil) zm_ok (lwL_none 2 (by decide)) h
  have hr := base_count (P := Tryz.prog) (lo := 2) (sz := 237) (a := lwL 2) (H0 := H0) (E := fun i => lw3E n th (fl (sS i)) (fl (sM i)) i) (H := fun i => lw3H n (setS (pn n l) xs) po X t o x y l) n 0 (fun i _ hi => l3_step D Q hs (by omega)) (by
    rw [Nat.zero_add]
    exact base_end (by intro h; cases h) hend)
  have := base_loopB hr
  simp only [D.s0, D.m0] at this
  exact this
end
/-! ### the hooks of the top -/
noncomputable def lstT (f : FuncId) (n : Nat) (res : Option (List Value)) (e0 : Nat) : KLst := fun R args H er ok =>
  open Classical in match res with
  | none => if MemCall Tryz.prog f args H (.tuple ⟨[nilS, .int .i64 (Int.ofNat (e0 + 1))]⟩) H then er e0 else none
  | some pc => if MemCall Tryz.prog f args H (.tuple ⟨[sliceV H.next n n, .int .i64 0]⟩) ⟨H.next + 1, (H.next, .cells pc 3) :: H.objs⟩ then ok pc else none
theorem lstT_ok {f : FuncId} {n : Nat} {res : Option (List Value)} {e0 : Nat} : MSumOk Tryz.prog f (sLst n (lstT f n res e0)) := fun R args H k r h => by
  unfold sLst lstT at h
  split at h
  · split at h
    · rename_i hc; exact ⟨_, _, h, hc⟩
    · cases h
  · split at h
    · rename_i hc; exact ⟨_, _, h, hc⟩
    · cases h
theorem lstT_er {f : FuncId} {n e0 : Nat} {R : Type} {args : List Value} {H : AH} {er : Nat → Option R} {ok : List Value → Option R} (h : MemCall Tryz.prog f args H (.tuple ⟨[nilS, .int .i64 (Int.ofNat (e0 + 1))]⟩) H) : lstT f n none e0 R args H er ok = er e0 := by
  unfold lstT
  exact if_pos h
theorem lstT_some {f : FuncId} {n e0 : Nat} {pc : List Value} {R : Type} {args : List Value} {H : AH} {er : Nat → Option R} {ok : List Value → Option R} (h : MemCall Tryz.prog f args H (.tuple ⟨[sliceV H.next n n, .int .i64 0]⟩) ⟨H.next + 1, (H.next, .cells pc 3) :: H.objs⟩) : lstT f n (some pc) e0 R args H er ok = ok pc := by
  unfold lstT
  exact if_pos h
noncomputable def errT (f : FuncId) (e0 : Nat) : KErr := fun R args H er =>
  open Classical in if MemCall Tryz.prog f args H (.tuple ⟨[nilS, .int .i64 (Int.ofNat (e0 + 1))]⟩) H then er e0 else none
theorem errT_ok {f : FuncId} {e0 : Nat} : MSumOk Tryz.prog f (sErr (errT f e0)) := fun R args H k r h => by
  unfold sErr errT at h
  split at h
  · rename_i hc; exact ⟨_, _, h, hc⟩
  · cases h
theorem errT_eq {f : FuncId} {e0 : Nat} {R : Type} {args : List Value} {H : AH} {er : Nat → Option R} (h : MemCall Tryz.prog f args H (.tuple ⟨[nilS, .int .i64 (Int.ofNat (e0 + 1))]⟩) H) : errT f e0 R args H er = er e0 := by
  unfold errT
  exact if_pos h
noncomputable def thrT (m : Nat) : KThr := fun R args H k =>
  open Classical in if FlatCall Tryz.prog 51 args H (.tuple ⟨[fl m, .int .i64 0]⟩) then k m else none
theorem thrT_ok {m : Nat} : HSumOk Tryz.prog 51 (sThr (thrT m)) := fun R args H k r h => by
  unfold sThr thrT at h
  split at h
  · rename_i hc; exact ⟨_, h, rfl, hc⟩
  · cases h
theorem thrT_eq {m : Nat} {R : Type} {args : List Value} {H : AH} {k : Nat → Option R} (h : FlatCall Tryz.prog 51 args H (.tuple ⟨[fl m, .int .i64 0]⟩)) : thrT m R args H k = k m := by
  unfold thrT
  exact if_pos h
theorem tellE_okA {P : Program} {ρ0 : Map} {w0 : World} {lo : Nat} {H0 : AH} {ts : List Nat} {ex : Ex} {e' : Env} {H' : AH} {a : Code} : LOkA P ρ0 w0 lo H0 (tellE ts ex e' H' (tellG P ρ0 w0 H0)) a := fun R sz e H k r h => by
  unfold tellE tellG at h
  split at h
  · rename_i hb; exact ⟨ex, e', H', h, BaseAt.env hb (fun t v hv => getE_take hv) fun t v hv => hv⟩
  · cases h
theorem b8 : Tryz.f8.body = some (codeOf 8) := by kernel_rfl
theorem h49 : Has Tryz.prog 49 := ⟨Tryz.f49, _, Tryz.func49, by kernel_rfl, rfl⟩
theorem h50 : Has Tryz.prog 50 := ⟨Tryz.f50, _, Tryz.func50, by kernel_rfl, rfl⟩
theorem h51 : Has Tryz.prog 51 := ⟨Tryz.f51, _, Tryz.func51, by kernel_rfl, rfl⟩
theorem alive_flat (H : AH) : FlatCall Tryz.prog 47 [] H (.bool true) := by
  obtain ⟨_, v, h1, h2, h3⟩ := k47 Value [] some (.bool true) rfl
  cases h1
  exact flat_call rfl h3 H
/-- the law's call, from the way through -/
theorem law_end {gl : List (Nat × HSum)} {ml : List (Nat × MSum)} (hC : (lwR gl ml).Ok) {O : Objs} {ρ : Map} {w : World} (hi : Inv ρ ⟨2, O⟩ w) {L : Hand} (hL : ∀ a ∈ loopsIn (codeOf 8), LOkA Tryz.prog ρ w 2 ⟨2, O⟩ L a) {V0 V1 : Value} (h : evTop (lwR gl ml) 100 L 2 237 (codeOf 8) (enumE 0 [V0, V1]) ⟨2, O⟩ (takeC [4] [] fun ex e O => some (ex, e, O)) = some (.ret, [(4, .bool true)], [])) :
    ∀ args', VRels ρ [V0, V1] args' → Calls Tryz.prog 8 ⟨args'⟩ w fun e w' => e = .returned (.bool true) ∧ RowKit.Below w.heap.size w w' := by
  obtain ⟨ex1, e1, H1, g1, g2⟩ := evTop_at (ρ0 := ρ) (w0 := w) (H0 := ⟨2, O⟩) (lo := 2) hC zm_ok hi (Nat.le_refl _) (codeOf 8) hL _ _ _ _ h
  unfold takeC at g1
  simp only [Option.some.injEq, Prod.mk.injEq] at g1
  obtain ⟨rfl, he, _⟩ := g1
  have g3 : BaseAt Tryz.prog ρ w 2 237 ⟨2, O⟩ (enumE 0 [V0, V1]) ⟨2, O⟩ .ret (takeE [4] e1) H1 (fun Q a w => (codeOf 8).wp Tryz.prog Q a w) := BaseAt.env g2 (fun t v h => h) fun t v h => getE_take h
  rw [he] at g3
  exact calls_at hi Tryz.func8 b8 (Nat.le_of_ble_eq_true rfl) g3 (.inr rfl) (vs := [.bool true]) rfl rfl
section
variable {ρ : Map} {w : World} {n m : Nat} {b t : Bool} {V0 V1 lV X : Value} {o lo x y : AObj} {th s mo : Nat} {pc qc : List Value}
theorem top_loops {ρ : Map} {w : World} : ∀ a ∈ loopsIn (codeOf 8), LOkA Tryz.prog ρ w 2 ⟨2, oldT b t x y⟩ (topL n m b t V0 V1 lV X o lo x y th s mo pc qc (tellG Tryz.prog ρ w ⟨2, oldT b t x y⟩) (tellG Tryz.prog ρ w ⟨2, oldT b t x y⟩) (tellG Tryz.prog ρ w ⟨2, oldT b t x y⟩)) a :=
  fun a _ => orL_okA tellE_okA (orL_okA tellE_okA tellE_okA)
variable (hi : Inv ρ ⟨2, oldT b t x y⟩ w) (h1 : BaseAt Tryz.prog ρ w 2 237 ⟨2, oldT b t x y⟩ [(0, V0), (1, V1), (5, .bool true), (6, nilS), (7, intV 0)] ⟨2, oldT b t x y⟩ (.exit 0) [(0, V0), (1, V1), (5, .bool true), (6, lV), (7, intV n)] ⟨3, loO b lo ++ oldT b t x y⟩ (fun Q a w => Code.wp Tryz.prog (.loop (lwL 0)) Q a w))
  (h2 : BaseAt Tryz.prog ρ w 2 237 ⟨2, oldT b t x y⟩ [(1, V1), (5, .bool true), (6, lV), (8, ptrV 3), (9, intV 0)] ⟨4, (3, .cells [nilS] 0) :: (loO b lo ++ oldT b t x y)⟩ (.exit 2) [(1, V1), (5, .bool true), (6, lV), (8, ptrV 3), (9, intV m)] (lw2Z b t X o lo x y) (fun Q a w => Code.wp Tryz.prog (.loop (lwL 1)) Q a w))
include hi h1 h2
/-- no panels: an error at once -/
theorem law_few (hb : lV = lvB b n) (hn : b = false → n = 0) {e0 : Nat} (ho : MemCall Tryz.prog 49 [lV] (lw2Z b t X o lo x y) (.tuple ⟨[nilS, .int .i64 (Int.ofNat (e0 + 1))]⟩) (lw2Z b t X o lo x y)) :
    ∀ args', VRels ρ [V0, V1] args' → Calls Tryz.prog 8 ⟨args'⟩ w fun e w' => e = .returned (.bool true) ∧ RowKit.Below w.heap.size w w' := by
  have hC : (lwR [(47, saysV (.bool true) (saysR Tryz.prog 47 (.bool true)))] [(49, sErr (errT 49 e0))]).Ok := lwR_ok (.cons (says_ok rfl) h47 .nil) (.cons errT_ok h49 .nil)
  subst hb
  cases b with
  | true =>
    have h := top_eq1 (Ex × Env × Objs) (rI .i64) rB at48 absK (saysR Tryz.prog 47 (.bool true)) (errT 49 e0) n m t V0 V1 X o lo x y 0 0 0 [] [] (tellG Tryz.prog ρ w ⟨2, oldT true t x y⟩) (tellG Tryz.prog ρ w ⟨2, oldT true t x y⟩) (tellG Tryz.prog ρ w ⟨2, oldT true t x y⟩) fun ex e O => some (ex, e, O)
    refine law_end hC hi top_loops (h.trans ?_)
    refine (says_eq (alive_flat _)).trans ((tell_eqA h1).trans ((tell_eqA h2).trans (errT_eq ho)))
  | false =>
    have := hn rfl
    subst this
    have h := top_eq0 (Ex × Env × Objs) (rI .i64) rB at48 absK (saysR Tryz.prog 47 (.bool true)) (errT 49 e0) m t V0 V1 X o lo x y 0 0 0 [] [] (tellG Tryz.prog ρ w ⟨2, oldT false t x y⟩) (tellG Tryz.prog ρ w ⟨2, oldT false t x y⟩) (tellG Tryz.prog ρ w ⟨2, oldT false t x y⟩) fun ex e O => some (ex, e, O)
    refine law_end hC hi top_loops (h.trans ?_)
    refine (says_eq (alive_flat _)).trans ((tell_eqA h1).trans ((tell_eqA h2).trans (errT_eq ho)))
end
section
variable {ρ : Map} {w : World} {n m : Nat} {t : Bool} {V0 V1 X : Value} {o lo x y : AObj} {th s mo : Nat} {pc qc : List Value}
  (hi : Inv ρ ⟨2, oldT true t x y⟩ w) (h1 : BaseAt Tryz.prog ρ w 2 237 ⟨2, oldT true t x y⟩ [(0, V0), (1, V1), (5, .bool true), (6, nilS), (7, intV 0)] ⟨2, oldT true t x y⟩ (.exit 0) [(0, V0), (1, V1), (5, .bool true), (6, sliceV 2 n n), (7, intV n)] ⟨3, loO true lo ++ oldT true t x y⟩ (fun Q a w => Code.wp Tryz.prog (.loop (lwL 0)) Q a w))
  (h2 : BaseAt Tryz.prog ρ w 2 237 ⟨2, oldT true t x y⟩ [(1, V1), (5, .bool true), (6, sliceV 2 n n), (8, ptrV 3), (9, intV 0)] ⟨4, (3, .cells [nilS] 0) :: (loO true lo ++ oldT true t x y)⟩ (.exit 2) [(1, V1), (5, .bool true), (6, sliceV 2 n n), (8, ptrV 3), (9, intV m)] (lw2Z true t X o lo x y) (fun Q a w => Code.wp Tryz.prog (.loop (lwL 1)) Q a w))
theorem topR_ok {n : Nat} {r1 r2 : Option (List Value)} {e1 e2 th : Nat} : (lwR [(47, saysV (.bool true) (saysR Tryz.prog 47 (.bool true))), (51, sThr (thrT th))] [(49, sLst n (lstT 49 n r1 e1)), (50, sLst n (lstT 50 n r2 e2))]).Ok :=
  lwR_ok (.cons (says_ok rfl) h47 (.cons thrT_ok h51 .nil)) (.cons lstT_ok h49 (.cons lstT_ok h50 .nil))
include hi h1 h2
/-- Solve finds nothing -/
theorem law_none {e2 : Nat} (ho : MemCall Tryz.prog 49 [sliceV 2 n n] (lw2Z true t X o lo x y) (.tuple ⟨[sliceV 5 n n, .int .i64 0]⟩) ⟨6, (5, .cells pc 3) :: (lw2Z true t X o lo x y).objs⟩)
    (hs : MemCall Tryz.prog 50 [sliceV 5 n n, .agg ⟨[X]⟩] ⟨6, (5, .cells pc 3) :: (lw2Z true t X o lo x y).objs⟩ (.tuple ⟨[nilS, .int .i64 (Int.ofNat (e2 + 1))]⟩) ⟨6, (5, .cells pc 3) :: (lw2Z true t X o lo x y).objs⟩) :
    ∀ args', VRels ρ [V0, V1] args' → Calls Tryz.prog 8 ⟨args'⟩ w fun e w' => e = .returned (.bool true) ∧ RowKit.Below w.heap.size w w' := by
  have h := top_eq (Ex × Env × Objs) (rI .i64) rB at48 absK (saysR Tryz.prog 47 (.bool true)) (lstT 49 n (some pc) 0) (lstT 50 n none e2) (thrT 0) n m t V0 V1 X o lo x y 0 0 0 [] [] (tellG Tryz.prog ρ w ⟨2, oldT true t x y⟩) (tellG Tryz.prog ρ w ⟨2, oldT true t x y⟩) (tellG Tryz.prog ρ w ⟨2, oldT true t x y⟩) fun ex e O => some (ex, e, O)
  refine law_end topR_ok hi top_loops (h.trans ?_)
  refine (says_eq (alive_flat _)).trans ((tell_eqA h1).trans ((tell_eqA h2).trans ((lstT_some ho).trans (lstT_er hs))))
/-- all is found -/
theorem law_good (ho : MemCall Tryz.prog 49 [sliceV 2 n n] (lw2Z true t X o lo x y) (.tuple ⟨[sliceV 5 n n, .int .i64 0]⟩) ⟨6, (5, .cells pc 3) :: (lw2Z true t X o lo x y).objs⟩)
    (hs : MemCall Tryz.prog 50 [sliceV 5 n n, .agg ⟨[X]⟩] ⟨6, (5, .cells pc 3) :: (lw2Z true t X o lo x y).objs⟩ (.tuple ⟨[sliceV 6 n n, .int .i64 0]⟩) ⟨7, (6, .cells qc 3) :: (5, .cells pc 3) :: (lw2Z true t X o lo x y).objs⟩)
    (ht : FlatCall Tryz.prog 51 [sliceV 6 n n, .agg ⟨[X]⟩] ⟨7, (6, .cells qc 3) :: (5, .cells pc 3) :: (lw2Z true t X o lo x y).objs⟩ (.tuple ⟨[fl th, .int .i64 0]⟩))
    (h3 : BaseAt Tryz.prog ρ w 2 237 ⟨2, oldT true t x y⟩ (lw3E n th (fl 0) (fl 0) 0) ⟨7, (6, .cells qc 3) :: (5, .cells pc 3) :: (lw2Z true t X o lo x y).objs⟩ (.exit 4) (lw3E n th (fl s) (fl mo) n) ⟨7, (6, .cells qc 3) :: (5, .cells pc 3) :: (lw2Z true t X o lo x y).objs⟩ (fun Q a w => Code.wp Tryz.prog (.loop (lwL 2)) Q a w))
    {a c : Nat} (ha : fbF .add s mo = some a) (hc : fbF .mul a 4481081629233643520 = some c) (hle : leF th c = true) :
    ∀ args', VRels ρ [V0, V1] args' → Calls Tryz.prog 8 ⟨args'⟩ w fun e w' => e = .returned (.bool true) ∧ RowKit.Below w.heap.size w w' := by
  have h := top_eq (Ex × Env × Objs) (rI .i64) rB at48 absK (saysR Tryz.prog 47 (.bool true)) (lstT 49 n (some pc) 0) (lstT 50 n (some qc) 0) (thrT th) n m t V0 V1 X o lo x y th s mo pc qc (tellG Tryz.prog ρ w ⟨2, oldT true t x y⟩) (tellG Tryz.prog ρ w ⟨2, oldT true t x y⟩) (tellG Tryz.prog ρ w ⟨2, oldT true t x y⟩) fun ex e O => some (ex, e, O)
  refine law_end topR_ok hi top_loops (h.trans ?_)
  refine (says_eq (alive_flat _)).trans ((tell_eqA h1).trans ((tell_eqA h2).trans ((lstT_some ho).trans ((lstT_some hs).trans ?_))))
  rw [show ((n : Int) != (n : Int)) = false by simp, cond_false, cond_false]
  refine (thrT_eq ht).trans ((tell_eqA h3).trans ?_)
  rw [bindF_eq ha, bindF_eq hc, forceB_eq, hle]
  rfl
end
end Go.Vm
namespace Go.Vm
open Go.Proofs Ieee
set_option linter.unusedVariables false
set_option linter.unusedSimpArgs false
set_option maxRecDepth 1000000

/-! ### The greater of two -/
theorem mx_exec (m c : Nat) : execOp (mxF m c) mxOp = ((Builtin.max2 (fl m) (fl c) >>= fun v => (pure v : Sem Value)) >>= fun v => (pure (.value v) : Sem Go.Next)) := by kernel_rfl
theorem maxE_of {m c w : Nat} (h : Builtin.max2 (fl m) (fl c) = pure (fl w)) {R : Type} (k : Value → Option R) : maxE m c k = k (fl w) := by
  unfold maxE
  rw [mx_exec, h]
  rfl
theorem max2_is {m c : Nat} {x y : Rat} (hm : Is m x) (hc : Is c y) : ∃ w W, Builtin.max2 (fl m) (fl c) = pure (fl w) ∧ Is w W ∧ x ≤ W ∧ y ≤ W ∧ (W = x ∨ W = y) := by
  have ho := order_is hm hc
  have hd : Builtin.max2 (fl m) (fl c) = (match double.order m c with
    | none => do pure (.float .f64 (← choose (.nanMinMax .f64 true m c)))
    | some .lt => pure (fl c)
    | some .gt => pure (fl m)
    | some .eq => pure (fl (if (FloatKind.f64.decode m).neg then c else m))) := rfl
  rw [ordW_eq] at ho
  rw [ho] at hd
  by_cases c1 : x < y
  · rw [if_pos c1] at hd
    exact ⟨c, y, hd, hc, by grind, Rat.le_refl, .inr rfl⟩
  · rw [if_neg c1] at hd
    by_cases c2 : x = y
    · rw [if_pos c2] at hd
      refine ⟨_, x, hd, ?_, Rat.le_refl, by grind, .inl rfl⟩
      split
      · rw [c2]; exact hc
      · exact hm
    · rw [if_neg c2] at hd
      exact ⟨m, x, hd, hm, Rat.le_refl, by grind, .inl rfl⟩
theorem maxE_is {m c : Nat} {x y : Rat} (hm : Is m x) (hc : Is c y) : ∃ w W, (∀ (R : Type) (k : Value → Option R), maxE m c k = k (fl w)) ∧ Is w W ∧ x ≤ W ∧ y ≤ W ∧ (W = x ∨ W = y) := by
  obtain ⟨w, W, h1, h2⟩ := max2_is hm hc
  exact ⟨w, W, fun R k => maxE_of h1 k, h2⟩
/-- math.Max is one of both -/
theorem pkW_or {x y : Nat} {X Y : Rat} (hx : Is x X) (hy : Is y Y) : pkW x y = x ∨ pkW x y = y := by
  obtain ⟨_, s, m, i, h1, _⟩ := hx
  obtain ⟨_, t, n, j, h2, _⟩ := hy
  have d1 : FloatKind.f64.decode x = .number s m i := h1
  have d2 : FloatKind.f64.decode y = .number t n j := h2
  unfold pkW
  simp only [d1, d2]
  have e1 : ((Datum.number s m i == Datum.infinity false) || (Datum.number t n j == Datum.infinity false)) = false := by simp
  have e2 : ((Datum.number s m i).isNaN || (Datum.number t n j).isNaN) = false := by simp [Datum.isNaN]
  rw [if_neg (by rw [e1]; decide), if_neg (by rw [e2]; decide)]
  split
  · split
    · exact .inl rfl
    · exact .inr rfl
  · split
    · exact .inl rfl
    · exact .inr rfl
theorem mxW_le {z : Nat → Nat × Nat} {B : Rat} : ∀ (n i m : Nat), (∃ M, Is m M ∧ M ≤ B) → (∀ j, i ≤ j → j < i + n → ∃ Z, Is (z j).2 Z ∧ Z.abs ≤ B) → ∃ M, Is (mxW z n i m) M ∧ M ≤ B
  | 0, i, m, h, _ => h
  | n + 1, i, m, h, hz => by
    obtain ⟨M, hm, hb⟩ := h
    obtain ⟨Z, hZ, hZb⟩ := hz i (Nat.le_refl _) (by omega)
    refine mxW_le n (i + 1) _ ?_ fun j h1 h2 => hz j (by omega) (by omega)
    rcases pkW_or hm (abs_is hZ) with e | e
    · rw [e]; exact ⟨M, hm, hb⟩
    · rw [e]; exact ⟨Z.abs, abs_is hZ, hZb⟩
end Go.Vm
namespace Go.Vm
open Go.Proofs Ieee
set_option linter.unusedVariables false
set_option linter.unusedSectionVars false
set_option linter.unusedSimpArgs false

/-! ### Nothing at the right: nothing is found -/
theorem gMul_zero {f z : Nat} (hf : Fin f) (hz : Is z 0) : Is (gMul f z) 0 := by
  have h0 : (vl f * 0 : Rat) = 0 := by grind
  obtain ⟨w, x, e1, e2, e3⟩ := mul_is (vl_is hf) hz (by rw [h0, abs_zero]; exact p2_pos _)
  have := e3.rep 0 0 (by decide) (by decide) (by rw [h0]; simp)
  rw [this, h0] at e2
  have hw : gMul f z = w := by unfold gMul; rw [e1]; rfl
  rw [hw]
  exact e2
theorem gSub_zero {a b : Nat} (ha : Is a 0) (hb : Is b 0) : Is (gSub a b) 0 := by
  have h0 : (0 - 0 : Rat) = 0 := by grind
  obtain ⟨w, x, e1, e2, e3⟩ := sub_is ha hb (by rw [h0, abs_zero]; exact p2_pos _)
  have := e3.rep 0 0 (by decide) (by decide) (by rw [h0]; simp)
  rw [this, h0] at e2
  have hw : gSub a b = w := by unfold gSub; rw [e1]; rfl
  rw [hw]
  exact e2
theorem gQuo_zero {a b : Nat} (ha : Is a 0) (hb : Fin b) (h : vl b ≠ 0) : Is (gQuo a b) 0 := by
  have h0 : (0 / vl b : Rat) = 0 := by rw [Rat.div_def]; grind
  obtain ⟨w, x, e1, e2, e3⟩ := div_is ha (vl_is hb) h (by rw [h0, abs_zero]; exact p2_pos _)
  have := e3.rep 0 0 (by decide) (by decide) (by rw [h0]; simp)
  rw [this, h0] at e2
  have hw : gQuo a b = w := by unfold gQuo; rw [e1]; rfl
  rw [hw]
  exact e2
section
variable {n : Nat} {W0 : Nat → Nat → Nat} {B0 D0 : Rat} (hB : ∀ r j, r < n → j < n → Le B0 (W0 r j)) (hD : ∀ r, r < n → Le D0 (W0 r n)) (hn : n ≤ 8) (tB : tau ≤ B0) (tD : tau ≤ D0) (bB : B0 * 300 ≤ (2 : Rat) ^ (300 : Int)) (bD : D0 * 300 ≤ (2 : Rat) ^ (300 : Int))
  (h : ∀ c, c < n → vl (Wc n W0 c (pvc n W0 c) c) ≠ 0)
include hB hD hn tB tD bB bD h
theorem column_zero (hz : ∀ r, r < n → Is (W0 r n) 0) : ∀ c, c ≤ n → ∀ r, r < n → Is (Wc n W0 c r n) 0
  | 0, _, r, hr => hz r hr
  | c + 1, hc, r, hr => by
    have E := elim_of hB hD hn tB tD bB bD n (Nat.le_refl n) h
    have ih := column_zero hz c (by omega)
    have lo := E.lo c (by omega)
    have sw : ∀ r, r < n → ∃ r', r' < n ∧ ∀ j, swp c (pvc n W0 c) (Wc n W0 c) r j = Wc n W0 c r' j := fun r hr => by
      obtain ⟨r', e, h⟩ := swp_row c (pvc n W0 c) (Wc n W0 c) r
      refine ⟨r', ?_, e⟩
      rcases h with h | ⟨_, h⟩ | ⟨_, h⟩ <;> omega
    have zr : ∀ r, r < n → Is (swp c (pvc n W0 c) (Wc n W0 c) r n) 0 := fun r hr => by
      obtain ⟨r', h1, h2⟩ := sw r hr
      rw [h2]
      exact ih r' h1
    rw [E.next c (by omega)]
    unfold stepW
    split
    · exact zr r hr
    · rename_i hrc
      have hcr : c < r := by omega
      have bnd := E.bounds hB hD hn tB tD bB bD c (by omega)
      obtain ⟨r0, a1, a2, a3⟩ := E.rows (c := c) (by omega) (r := r) (by omega) hr
      have f1 : Fin (swp c (pvc n W0 c) (Wc n W0 c) r c) := by rw [a3]; exact ((bnd r0 a1 a2).1 c (Nat.le_refl _) (by omega)).1
      have f2 : Fin (swp c (pvc n W0 c) (Wc n W0 c) c c) := by rw [swp_top]; exact ((bnd _ lo.1 lo.2).1 c (Nat.le_refl _) (by omega)).1
      have nz : vl (swp c (pvc n W0 c) (Wc n W0 c) c c) ≠ 0 := by rw [swp_top]; exact E.nz c (by omega)
      have le : (vl (swp c (pvc n W0 c) (Wc n W0 c) r c)).abs ≤ 1 * (vl (swp c (pvc n W0 c) (Wc n W0 c) c c)).abs := by
        rw [a3, swp_top]
        have := E.top c (by omega) r0 a1 a2
        grind
      have t1 : tau ≤ 1 := by
        unfold tau
        have := p2_le (show (-1000 : Int) ≤ 0 by decide)
        rw [Rat.zpow_zero] at this
        exact this
      obtain ⟨_, fq, _, _⟩ := g_quo (C := 1) f1 f2 nz le t1 (one_le_p2 400)
      exact gSub_zero (zr r hr) (gMul_zero fq (zr c (by omega)))
theorem zero_sol (hz : ∀ r, r < n → Is (W0 r n) 0) (hx : ∀ k, k < n → ∃ w, bX n (Wc n W0 n) n k = some w ∧ leF (absW w) 4787326403894837248 = true) : ∀ k, k < n → Is (wordX (bX n (Wc n W0 n) n) k) 0 := by
  have E := elim_of hB hD hn tB tD bB bD n (Nat.le_refl n) h
  have ff := fun k hk => found_fin (W := Wc n W0 n) hx (k := k) hk
  have col := column_zero hB hD hn tB tD bB bD h hz n (Nat.le_refl n)
  have row : ∀ c, c < n → ∀ j, Wc n W0 n c j = swp c (pvc n W0 c) (Wc n W0 c) c j := fun c hc j => E.done hc n hc (Nat.le_refl n) j
  -- from the last one upwards
  have key : ∀ m c, c + m + 1 = n → ∀ k, c ≤ k → k < n → Is (wordX (bX n (Wc n W0 n) n) k) 0 := fun m => by
    induction m with
    | zero =>
      intro c hc k h1 h2
      have : k = c := by omega
      subst this
      rw [bX_quo (W := Wc n W0 n) h2 fun k hk => (ff k hk).1]
      have e : n - (k + 1) = 0 := by omega
      rw [e]
      show Is (gQuo (Wc n W0 n k n) (Wc n W0 n k k)) 0
      refine gQuo_zero (col k h2) ?_ ?_
      · rw [row k h2, swp_top]
        have lo := E.lo k h2
        exact ((E.bounds hB hD hn tB tD bB bD k (by omega) _ lo.1 lo.2).1 k (Nat.le_refl _) h2).1
      · rw [row k h2, swp_top]
        exact E.nz k h2
    | succ m ih =>
      intro c hc k h1 h2
      have ih' := ih (c + 1) (by omega)
      by_cases hk : k = c
      · subst hk
        rw [bX_quo (W := Wc n W0 n) h2 fun k hk => (ff k hk).1]
        have lo := E.lo k h2
        have bnd := (E.bounds hB hD hn tB tD bB bD k (by omega) _ lo.1 lo.2).1
        have fin : ∀ j, k ≤ j → j < n → Fin (Wc n W0 n k j) := fun j g1 g2 => by
          rw [row k h2, swp_top]
          exact (bnd j g1 g2).1
        have hT : ∀ q, k + 1 + q ≤ n → Is (tW (Wc n W0 n) (wordX (bX n (Wc n W0 n) n)) k n q) 0 := fun q => by
          induction q with
          | zero => intro _; exact col k h2
          | succ q ihq =>
            intro hq
            have f1 := fin (k + 1 + q) (by omega) (by omega)
            have z1 := ih' (k + 1 + q) (by omega) (by omega)
            exact gSub_zero (ihq (by omega)) (gMul_zero f1 z1)
        refine gQuo_zero (hT _ (by omega)) (fin k (Nat.le_refl _) h2) ?_
        rw [row k h2, swp_top]
        exact E.nz k h2
      · exact ih' k (by omega) h2
  intro k hk
  exact key (n - 1) 0 (by omega) k (Nat.zero_le _) hk
end
end Go.Vm
namespace Go.Vm
open Go.Proofs Ieee
set_option linter.unusedVariables false
set_option linter.unusedSectionVars false
set_option linter.unusedSimpArgs false
set_option maxRecDepth 1000000

/-! ### Sizes, the greatest speed, the law's end -/
def sSz (xs : Nat → Nat) : Nat → Nat
  | 0 => 0
  | i + 1 => gAdd (sSz xs i) (absW (xs i))
def sCw (xy : Nat → Nat × Nat) (i : Nat) : Nat := gAdd (absW (xy i).1) (absW (xy i).2)
open Classical in
noncomputable def mxN (m c : Nat) : Nat := if h : ∃ w, ∀ (R : Type) (k : Value → Option R), maxE m c k = k (fl w) then Classical.choose h else 0
noncomputable def sMx (xy : Nat → Nat × Nat) : Nat → Nat
  | 0 => 0
  | i + 1 => mxN (sMx xy i) (sCw xy i)
theorem mxN_is {m c : Nat} {x y : Rat} (hm : Is m x) (hc : Is c y) : ∃ W, (∀ (R : Type) (k : Value → Option R), maxE m c k = k (fl (mxN m c))) ∧ Is (mxN m c) W ∧ x ≤ W ∧ y ≤ W ∧ (W = x ∨ W = y) := by
  obtain ⟨w, W, h1, h2, h3⟩ := maxE_is hm hc
  have hex : ∃ w, ∀ (R : Type) (k : Value → Option R), maxE m c k = k (fl w) := ⟨w, h1⟩
  have hs := Classical.choose_spec hex
  have e : mxN m c = Classical.choose hex := by unfold mxN; rw [dif_pos hex]
  rw [e]
  have h := (hs Value some).symm.trans (h1 Value some)
  have hw : Classical.choose hex = w := by
    simp only [fl, Option.some.injEq, Value.float.injEq, true_and] at h
    exact h
  refine ⟨W, hs, ?_, h3⟩
  rw [hw]
  exact h2
theorem gAdd_is {a b : Nat} {A B : Rat} (ha : Is a A) (hb : Is b B) (h : A.abs + B.abs ≤ big200) : ∃ C, fbF .add a b = some (gAdd a b) ∧ Is (gAdd a b) C ∧ (C - (A + B)).abs ≤ eps / 4 * (A.abs + B.abs) + tn ∧ (0 ≤ A + B → 0 ≤ C) := by
  obtain ⟨c, C, f1, i1, e1, _, z2⟩ := fine_add ha hb h
  have e : gAdd a b = c := by unfold gAdd; rw [f1]; rfl
  rw [e]
  exact ⟨C, f1, i1, e1, z2⟩
section
variable {n : Nat} (hn : n ≤ 8) {xs : Nat → Nat} {x : Nat → Rat} (hx : ∀ j, j < n → Is (xs j) (x j)) (bx : ∀ j, j < n → (x j).abs ≤ (2 : Rat) ^ (40 : Int))
include hn hx bx
theorem sizes_is : ∀ i, i ≤ n → ∃ V, Is (sSz xs i) V ∧ 0 ≤ V ∧ Inv8 i V (sm (fun j => (x j).abs) 0 i) (sm (fun j => (x j).abs) 0 i) ∧ (∀ j, j < i → fbF .add (sSz xs j) (absW (xs j)) = some (sSz xs (j + 1)))
  | 0, _ => ⟨0, is0, Rat.le_refl, ⟨by simp only [sm]; rw [show (0 - 0 : Rat) = 0 by grind, abs_zero, show ((0 : Nat) : Rat) = 0 from rfl]; grind, by simp only [sm]; rw [abs_zero]; grind⟩, fun j hj => by omega⟩
  | i + 1, hi => by
    obtain ⟨V, h1, h2, h3, h4⟩ := sizes_is i (by omega)
    have b200 := big200_lo
    have ep := eps_pos
    have X0 := sm_nonneg (f := fun j => (x j).abs) (fun j => abs_nonneg _) i 0
    have X1 : sm (fun j => (x j).abs) 0 i ≤ 8 * 1099511627776 := by
      have h := sm_le_mul (f := fun j => (x j).abs) (B := 1099511627776) i 0 fun j _ hj => by have := bx j (by omega); rw [p2_40] at this; exact this
      have n8 : (i : Rat) ≤ 8 := by exact_mod_cast (show i ≤ 8 by omega)
      have := Rat.mul_le_mul_of_nonneg_right n8 (show (0 : Rat) ≤ 1099511627776 by decide)
      grind
    have bi := bx i (by omega)
    rw [p2_40] at bi
    have t0 := tn_pos
    have ts := tn_small
    have el := eps_le
    have na := abs_nonneg (x i)
    have aa : ((x i).abs).abs = (x i).abs := Rat.abs_of_nonneg na
    have bV : V.abs ≤ 2 * sm (fun j => (x j).abs) 0 i + 16 * tn := (inv8_add (p := 0) (C := V) (by omega) h3 (by rw [show V - (V + 0) = 0 by grind, abs_zero]; have := abs_nonneg V; have := Rat.mul_nonneg (show 0 ≤ eps / 4 by grind) (show 0 ≤ V.abs + 0 by grind); grind)).2
    obtain ⟨C, f1, i1, e1, z1⟩ := gAdd_is h1 (abs_is (hx i (by omega))) (by rw [aa]; grind)
    obtain ⟨u1, _⟩ := inv8_add (by omega) h3 e1
    rw [aa] at u1
    have hl := sm_last (fun j => (x j).abs) i 0
    rw [Nat.zero_add] at hl
    refine ⟨C, i1, z1 (by grind), by rw [hl]; exact u1, fun j hj => ?_⟩
    by_cases hji : j = i
    · subst hji; exact f1
    · exact h4 j (by omega)
end
section
variable {n : Nat} {xy : Nat → Nat × Nat} {S1 S2 : Nat → Rat} (hs : ∀ j, j < n → Is (xy j).1 (S1 j) ∧ Is (xy j).2 (S2 j)) (bs : ∀ j, j < n → (S1 j).abs ≤ 1000 ∧ (S2 j).abs ≤ 1000)
include hs bs
theorem speed_is {j : Nat} (hj : j < n) : ∃ C, fbF .add (absW (xy j).1) (absW (xy j).2) = some (sCw xy j) ∧ Is (sCw xy j) C ∧ 0 ≤ C ∧ (S1 j).abs + (S2 j).abs - (eps * ((S1 j).abs + (S2 j).abs) + tn) ≤ C := by
  have b200 := big200_lo
  have ep := eps_pos
  have n1 := abs_nonneg (S1 j)
  have n2 := abs_nonneg (S2 j)
  have a1 : ((S1 j).abs).abs = (S1 j).abs := Rat.abs_of_nonneg n1
  have a2 : ((S2 j).abs).abs = (S2 j).abs := Rat.abs_of_nonneg n2
  have b := bs j hj
  obtain ⟨C, f1, i1, e1, z1⟩ := gAdd_is (abs_is (hs j hj).1) (abs_is (hs j hj).2) (by rw [a1, a2]; grind)
  rw [a1, a2] at e1
  have g := abs_le_iff.1 e1
  have := Rat.mul_nonneg (Rat.le_of_lt ep) (show 0 ≤ (S1 j).abs + (S2 j).abs by grind)
  exact ⟨C, f1, i1, z1 (by grind), by grind⟩
theorem most_is : ∀ i, i ≤ n → ∃ V, Is (sMx xy i) V ∧ 0 ≤ V ∧ (∀ j, j < i → (S1 j).abs + (S2 j).abs - (eps * ((S1 j).abs + (S2 j).abs) + tn) ≤ V) ∧ V ≤ big200 / 4 ∧ (∀ j, j < i → ∀ (R : Type) (k : Value → Option R), maxE (sMx xy j) (sCw xy j) k = k (fl (sMx xy (j + 1))))
  | 0, _ => ⟨0, is0, Rat.le_refl, fun j hj => by omega, by have := big200_lo; grind, fun j hj => by omega⟩
  | i + 1, hi => by
    obtain ⟨V, h1, h2, h3, h4, h5⟩ := most_is i (by omega)
    obtain ⟨C, g1, g2, g3, g4⟩ := speed_is hs bs (j := i) (by omega)
    obtain ⟨W, k1, k2, k3, k4, k5⟩ := mxN_is h1 g2
    have Cb : C ≤ big200 / 4 := by
      have b200 := big200_lo
      have b := bs i (by omega)
      have n1 := abs_nonneg (S1 i)
      have n2 := abs_nonneg (S2 i)
      have a1 : ((S1 i).abs).abs = (S1 i).abs := Rat.abs_of_nonneg n1
      have a2 : ((S2 i).abs).abs = (S2 i).abs := Rat.abs_of_nonneg n2
      obtain ⟨C', f1, i1, e1, z1⟩ := gAdd_is (abs_is (hs i (by omega)).1) (abs_is (hs i (by omega)).2) (by rw [a1, a2]; grind)
      have : C' = C := is_fun i1 g2
      subst this
      rw [a1, a2] at e1
      have g := abs_le_iff.1 e1
      have el := eps_le
      have t0 := tn_pos
      have ts := tn_small
      have := Rat.mul_le_mul_of_nonneg_right el (show 0 ≤ (S1 i).abs + (S2 i).abs by grind)
      grind
    refine ⟨W, k2, by grind, fun j hj => ?_, by rcases k5 with h | h <;> grind, fun j hj => ?_⟩
    · by_cases hji : j = i
      · subst hji; grind
      · have := h3 j (by omega); grind
    · by_cases hji : j = i
      · subst hji; exact k1
      · exact h5 j (by omega)
end
/-- the end, in fractions -/
theorem final_ineq {X σ TH V Mo a c t : Rat} (X0 : 0 ≤ X) (t0 : 0 ≤ t) (ts : t * 1000000000000000 ≤ σ) (hTH : TH ≤ 10560 * (eps * (103 / 100 * σ + t + 530 * X)) + eps * (6600 * X + 20 * σ) + 1000 * t)
    (hV : X - 8 * (eps * X + 2 * t) ≤ V) (hM : σ - (eps * σ + t) ≤ Mo) (ha : V + Mo - (eps * (V + Mo) + t) ≤ a) (hc : a * (1 / 268435456) - (eps * (a * (1 / 268435456)) + t) ≤ c) : TH ≤ c := by
  rw [eps_eq] at *
  grind
end Go.Vm
