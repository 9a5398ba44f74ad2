/- A part of the evaluator and of what is told of floats; no conditions. -/
import Derived.Test.YtnbpfafngidimaaGreatVmV6
import Derived.Test.YtnbpfafngidimaaGreatVmUD7
namespace Go.Vm
open Go.Proofs
set_option linter.unusedVariables false
set_option linter.unusedSimpArgs false
set_option maxRecDepth 1000000

/-! ### Panels: all equations -/
structure Pq (n : Nat) : Prop where
  sl : SlG n
  md : MdG n
  of : EqOf n
  th : EqTh n
  al : EqAl n
  rw : ∀ i, i < n → EqRw n i
  sy : Sys n
theorem pq_all : ∀ n, 3 ≤ n → n ≤ 8 → Pq n
  | 3, h, g => ⟨⟨sr_3, sx_3, se_3⟩, ⟨mr_3, mx_3, me_3, mt_3⟩, pof_3, th_3, al_3, rw_3, sys_all 3 h g⟩
  | 4, h, g => ⟨⟨sr_4, sx_4, se_4⟩, ⟨mr_4, mx_4, me_4, mt_4⟩, pof_4, th_4, al_4, rw_4, sys_all 4 h g⟩
  | 5, h, g => ⟨⟨sr_5, sx_5, se_5⟩, ⟨mr_5, mx_5, me_5, mt_5⟩, pof_5, th_5, al_5, rw_5, sys_all 5 h g⟩
  | 6, h, g => ⟨⟨sr_6, sx_6, se_6⟩, ⟨mr_6, mx_6, me_6, mt_6⟩, pof_6, th_6, al_6, rw_6, sys_all 6 h g⟩
  | 7, h, g => ⟨⟨sr_7, sx_7, se_7⟩, ⟨mr_7, mx_7, me_7, mt_7⟩, pof_7, th_7, al_7, rw_7, sys_all 7 h g⟩
  | 8, h, g => ⟨⟨sr_8, sx_8, se_8⟩, ⟨mr_8, mx_8, me_8, mt_8⟩, pof_8, th_8, al_8, rw_8, sys_all 8 h g⟩
  | 0, h, _ => absurd h (by omega)
  | 1, h, _ => absurd h (by omega)
  | 2, h, _ => absurd h (by omega)
  | n + 9, _, h => absurd h (by omega)
/-! ### A list that a call leaves -/
theorem place_self {j N : Nat} : placeIn [j] N j = some N := by
  unfold placeIn
  rw [Nat.beq_refl]
  rfl
theorem lift_one {P : Program} {f : FuncId} {argsc args : List Value} {q : Nat → Option Nat} {Hc Hc' H : AH} {j sz : Nat} {cs : List Value} {v v2 : Value} (hq : Within q Hc H) (ha : renL q argsc = some args) (hj : Hc.next ≤ j) (hm : (j, .cells cs sz) ∈ Hc'.objs) (hf : inns 0 cs = true)
    (hv : renV (placeC q Hc.next H.next [j]) v = some v2)
    (h : ∀ ρ w args', Inv ρ Hc w → VRels ρ argsc args' → Calls P f ⟨args'⟩ w fun e w' => ∃ ρ' v', e = .returned v' ∧ VRel ρ' v v' ∧ Next Hc.next ρ Hc w ρ' Hc' w') : MemCall P f args H v2 ⟨H.next + 1, (H.next, .cells cs sz) :: H.objs⟩ :=
  calls_lift (bs := [j]) (A := [(H.next, .cells cs sz)]) hq ha hv (fun k o2 hk => by
    simp only [List.mem_cons, List.not_mem_nil, or_false] at hk
    cases hk
    exact ⟨j, _, hm, place_self, by show (renL _ cs).bind _ = _; rw [rens_flat hf]; rfl⟩) (fun i hi => by simp only [List.mem_cons, List.not_mem_nil, or_false] at hi; omega) h
theorem lift_none {P : Program} {f : FuncId} {argsc args : List Value} {q : Nat → Option Nat} {Hc Hc' H : AH} {v : Value} (hq : Within q Hc H) (ha : renL q argsc = some args) (hv : inn 0 v = true)
    (h : ∀ ρ w args', Inv ρ Hc w → VRels ρ argsc args' → Calls P f ⟨args'⟩ w fun e w' => ∃ ρ' v', e = .returned v' ∧ VRel ρ' v v' ∧ Next Hc.next ρ Hc w ρ' Hc' w') : MemCall P f args H v H :=
  calls_lift (bs := []) (A := []) hq ha (ren_flat hv) (fun k o2 hk => by simp at hk) (fun i hi => by simp at hi) h
theorem panC_flat (p : Nat → Pn) : ∀ m i, inns 0 (panC p i m) = true
  | 0, _ => rfl
  | m + 1, i => by simp only [panC, inns, inn, fl, panC_flat p m, Bool.and_self, Bool.true_and]
theorem pieC_flat (p : Nat → Pn) (u : Nat → Un) : ∀ m i, inns 0 (pieC p u i m) = true
  | 0, _ => rfl
  | m + 1, i => by simp only [pieC, inns, inn, fl, pieC_flat p u m, Bool.and_self, Bool.true_and]
theorem cxL_flat (v : Nat → Nat × Nat) : ∀ m i, inns 0 (cxL v i m) = true
  | 0, _ => rfl
  | m + 1, i => by simp only [cxL, inns, inn, cxL_flat v m, Bool.and_self, Bool.true_and]
theorem pieC_congr {p : Nat → Pn} {u u' : Nat → Un} : ∀ m i, (∀ j, i ≤ j → j < i + m → u j = u' j) → pieC p u i m = pieC p u' i m
  | 0, _, _ => rfl
  | m + 1, i, h => by
    simp only [pieC]
    rw [h i (Nat.le_refl _) (by omega), pieC_congr m (i + 1) fun j h1 h2 => h j (by omega) (by omega)]
theorem cxL_congr {u u' : Nat → Nat × Nat} : ∀ m i, (∀ j, i ≤ j → j < i + m → u j = u' j) → cxL u i m = cxL u' i m
  | 0, _, _ => rfl
  | m + 1, i, h => by
    simp only [cxL]
    rw [h i (Nat.le_refl _) (by omega), cxL_congr m (i + 1) fun j h1 h2 => h j (by omega) (by omega)]
/-! ### all -/
def updAll (U : Nat → Un) : Nat → Nat → (Nat → Un) → Nat → Un
  | 0, _, u => u
  | m + 1, i, u => updAll U m (i + 1) (updU u i (U i))
theorem updU_eq {u : Nat → Un} {i : Nat} {x : Un} : updU u i x i = x := by unfold updU; rw [Nat.beq_refl]
theorem updU_ne {u : Nat → Un} {i j : Nat} {x : Un} (h : j ≠ i) : updU u i x j = u j := by
  unfold updU
  rw [beq_ne h]
theorem updAll_get (U : Nat → Un) : ∀ m i u j, updAll U m i u j = if i ≤ j ∧ j < i + m then U j else u j
  | 0, i, u, j => by rw [if_neg (by omega)]; rfl
  | m + 1, i, u, j => by
    simp only [updAll]
    rw [updAll_get U m]
    by_cases h : i + 1 ≤ j ∧ j < i + 1 + m
    · rw [if_pos h, if_pos (by omega)]
    · rw [if_neg h]
      by_cases h2 : j = i
      · subst h2
        rw [updU_eq, if_pos (by omega)]
      · rw [updU_ne h2, if_neg (by omega)]
/-- the pieces are told -/
def OfTold (n : Nat) (p : Nat → Pn) (U : Nat → Un) : Prop := ∀ i, i < n → ∀ (R : Type) (k : Nat → Nat → Nat → Nat → Nat → Option R), of1K R (p i).f1 (p i).f2 (p i).t1 (p i).t2 (p i).s k = k (U i).u1 (U i).u2 (U i).m1 (U i).m2 (U i).l
theorem allK_told {n : Nat} {p : Nat → Pn} {U : Nat → Un} (h : OfTold n p U) {R : Type} {k : (Nat → Un) → Option R} : ∀ m i u, i + m ≤ n → allK of1K p m i u k = k (updAll U m i u)
  | 0, _, _, _ => rfl
  | m + 1, i, u, hm => by
    simp only [allK]
    rw [h i (by omega)]
    exact allK_told h m (i + 1) _ (by omega)
noncomputable def alR : Cx := alC of1K
theorem alR_ok : alR.Ok := uC_ok (.cons k136o h136 .nil) .nil .nil
theorem b148 : Tryz.f148.body = some (codeOf 148) := by kernel_rfl
theorem b137 : Tryz.f137.body = some (codeOf 137) := by kernel_rfl
theorem b138 : Tryz.f138.body = some (codeOf 138) := by kernel_rfl
theorem b50 : Tryz.f50.body = some (codeOf 50) := by kernel_rfl
theorem b140 : Tryz.f140.body = some (codeOf 140) := by kernel_rfl
theorem b51 : Tryz.f51.body = some (codeOf 51) := by kernel_rfl
theorem b49 : Tryz.f49.body = some (codeOf 49) := by kernel_rfl
theorem h148 : Has Tryz.prog 148 := ⟨Tryz.f148, _, Tryz.func148, by kernel_rfl, rfl⟩
theorem h137 : Has Tryz.prog 137 := ⟨Tryz.f137, _, Tryz.func137, by kernel_rfl, rfl⟩
theorem h138 : Has Tryz.prog 138 := ⟨Tryz.f138, _, Tryz.func138, by kernel_rfl, rfl⟩
theorem h140 : Has Tryz.prog 140 := ⟨Tryz.f140, _, Tryz.func140, by kernel_rfl, rfl⟩
theorem lift_sl {n c j N m : Nat} {q : Nat → Option Nat} {e : Int} (h : m ≤ j) : renV (placeC q m N [j]) (.tuple ⟨[sliceV j n c, .int .i64 e]⟩) = some (.tuple ⟨[sliceV N n c, .int .i64 e]⟩) := by
  have : placeC q m N [j] j = some N := by
    unfold placeC
    rw [blt_false h]
    exact place_self
  simp [renV, renA, renL, sliceV, this]
theorem all_call {n : Nat} (hal : EqAl n) {p : Nat → Pn} {U : Nat → Un} (hU : OfTold n p U) {b c sz : Nat} {H : AH} (hb : (b, .cells (panC p 0 n) sz) ∈ H.objs) :
    MemCall Tryz.prog 148 [sliceV b n c] H (.tuple ⟨[sliceV H.next n n, .int .i64 0]⟩) ⟨H.next + 1, (H.next, .cells (pieC p U 0 n) 0) :: H.objs⟩ := by
  have h := hal (Ex × Env × Objs) of1K p c sz (fun ex e H => some (ex, e, H.objs))
  rw [allK_told hU n 0 _ (by omega)] at h
  rw [pieC_congr (p := p) (u' := U) n 0 fun j _ hj => by rw [updAll_get, if_pos (by omega)]] at h
  obtain ⟨H', hO, g⟩ := fun_mem (C := alR) (H := ⟨1, [(0, .cells (panC p 0 n) sz)]⟩) (args := [sliceV 0 n c]) alR_ok zm_ok Tryz.func148 b148 (fun a _ => rollL_ok alR_ok zm_ok 100 a) (Nat.le_of_ble_eq_true rfl) h (.inr rfl) (vs := [sliceV 1 n n, .int .i64 0]) rfl
  exact lift_one (q := only b) (within_only (panC_flat p n 0) hb) rfl (Nat.le_refl 1) (hO _ List.mem_cons_self) (pieC_flat p U n 0) (lift_sl (Nat.le_refl 1)) g
end Go.Vm
namespace Go.Vm
open Go.Proofs
set_option linter.unusedVariables false
set_option linter.unusedSectionVars false
set_option linter.unusedSimpArgs false
set_option maxRecDepth 1000000

/-! ### asked -/
noncomputable def asC (n : Nat) (ak : KAsk) (g : HT) : Cx := uC fiReal [] [(107, saysV (.int .i64 0) g)] [(148, sAsk n [0, 1] ak)]
theorem as_eq (n : Nat) (R : Type) (ak : KAsk) (g : HT) (p : Nat → Pn) (X : Value) (ca sz : Nat) (o : AObj) (K : Ex → Env → Objs → Option R) :
  evTop (asC n ak g) 100 noL 2 Tryz.f137.ntmps (codeOf 137) (enumE 0 [sliceV 0 n ca, .agg ⟨[X]⟩]) ⟨2, [(0, .cells (panC p 0 n) sz), (1, o)]⟩ (takeC [4, 5] [3] K) =
    ak R [sliceV 0 n ca] ⟨3, [(0, .cells (panC p 0 n) sz), (1, o)]⟩ fun p' u => g R [.agg ⟨[X]⟩] ⟨4, [(3, .cells (pieC p' u 0 n) 0), (2, .cells [X] 0), (0, .cells (panC p 0 n) sz), (1, o)]⟩ <| K .ret [(4, sliceV 3 n n), (5, .int .i64 0)] [(3, .cells (pieC p' u 0 n) 0)] := by kernel_rfl
/-- told -/
noncomputable def akT (f : FuncId) (n : Nat) (p : Nat → Pn) (u : Nat → Un) : KAsk := fun R args H k =>
  open Classical in if MemCall Tryz.prog f args H (.tuple ⟨[sliceV H.next n n, .int .i64 0]⟩) ⟨H.next + 1, (H.next, .cells (pieC p u 0 n) 0) :: H.objs⟩ then k p u else none
theorem akT_eq {f : FuncId} {n : Nat} {p : Nat → Pn} {u : Nat → Un} {R : Type} {args : List Value} {H : AH} {k : (Nat → Pn) → (Nat → Un) → Option R} (h : MemCall Tryz.prog f args H (.tuple ⟨[sliceV H.next n n, .int .i64 0]⟩) ⟨H.next + 1, (H.next, .cells (pieC p u 0 n) 0) :: H.objs⟩) : akT f n p u R args H k = k p u := by
  unfold akT
  rw [if_pos h]
theorem akT_ok {f : FuncId} {n : Nat} {bs : List Nat} {p : Nat → Pn} {u : Nat → Un} : MSumOk Tryz.prog f (sAsk n bs (akT f n p u)) := fun R args H k r h => by
  unfold sAsk akT at h
  split at h
  · rename_i hc
    refine ⟨_, _, h, ?_⟩
    exact MemCall.sup (O := takeO bs H.objs) (A := [(H.next, .cells (pieC p u 0 n) 0)]) hc (fun x hx => takeO_mem hx) fun k o hk => by
      simp only [List.mem_cons, List.not_mem_nil, or_false] at hk
      cases hk
      exact Nat.le_refl _
  · cases h
/-- two blocks, put side by side -/
def two (b c : Nat) (k : Nat) : Option Nat := match k with
  | 0 => some b
  | 1 => some c
  | _ => none
theorem within_two {b c : Nat} {cs : List Value} {sz : Nat} {o : AObj} {H : AH} (hf : inns 0 cs = true) (ho : ∀ q, renO q o = some o) (hne : b ≠ c) (hb : (b, .cells cs sz) ∈ H.objs) (hc : (c, o) ∈ H.objs) : Within (two b c) ⟨2, [(0, .cells cs sz), (1, o)]⟩ H where
  obj := fun j o2 h => by
    simp only [List.mem_cons, List.not_mem_nil, or_false] at h
    rcases h with h | h
    · cases h
      exact ⟨b, _, rfl, by show (renL _ cs).bind _ = _; rw [rens_flat hf]; rfl, hb⟩
    · cases h
      exact ⟨c, _, rfl, ho _, hc⟩
  lt := fun j o2 h => by
    simp only [List.mem_cons, List.not_mem_nil, or_false] at h
    rcases h with h | h
    · cases h; exact Nat.zero_lt_two
    · cases h; exact Nat.one_lt_two
  one := fun j o1 o2 h1 h2 => by
    simp only [List.mem_cons, List.not_mem_nil, or_false] at h1 h2
    rcases h1 with h1 | h1 <;> rcases h2 with h2 | h2 <;> cases h1 <;> cases h2 <;> rfl
  inj := fun j j' k h1 h2 => by
    match j, j' with
    | 0, 0 => rfl
    | 1, 1 => rfl
    | 0, 1 => cases h1; cases h2; exact absurd rfl hne
    | 1, 0 => cases h1; cases h2; exact absurd rfl hne
    | 0, j + 2 => cases h2
    | 1, j + 2 => cases h2
    | j + 2, _ => cases h1
  dom := fun j k h => by
    match j with
    | 0 => exact Nat.zero_lt_two
    | 1 => exact Nat.one_lt_two
    | j + 2 => cases h
/-- the flow: its list, where it lies -/
def flX (b : Nat) (t : Bool) (m c : Nat) : Value := match t with
  | true => sliceV b m c
  | false => nilS
theorem fl_fx {b : Nat} {t : Bool} {m c : Nat} : flV b t m c = .agg ⟨[flX b t m c]⟩ := by cases t <;> rfl
theorem ren_args {b c n ca : Nat} {t : Bool} {m cb : Nat} : renL (two b c) [sliceV 0 n ca, .agg ⟨[flX 1 t m cb]⟩] = some [sliceV b n ca, .agg ⟨[flX c t m cb]⟩] := by cases t <;> rfl
section
variable {n : Nat} (P : Pq n) {p : Nat → Pn} {U : Nat → Un} (hU : OfTold n p U) {t : Bool} {m cb : Nat} {f : Nat → El} (hf : FlOk t m f) {o : AObj} (ho : t = true → ∃ z, o = .cells (elsV f 0 m) z)
include hf ho
theorem check_call2 {b : Nat} {H : AH} (hb : (b, o) ∈ H.objs) : FlatCall Tryz.prog 107 [.agg ⟨[flX b t m cb]⟩] H (.int .i64 0) := by
  obtain ⟨hm, ht, hj⟩ := hf
  cases t with
  | true =>
    obtain ⟨z, rfl⟩ := ho rfl
    exact check_els hm hj hb
  | false => exact check_nil H
include P hU
theorem ask_small {ca sz : Nat} : ∃ H' : AH, (∀ x, x ∈ [(3, AObj.cells (pieC p U 0 n) 0)] → x ∈ H'.objs) ∧ ∀ ρ w args', Inv ρ ⟨2, [(0, .cells (panC p 0 n) sz), (1, o)]⟩ w → VRels ρ [sliceV 0 n ca, .agg ⟨[flX 1 t m cb]⟩] args' →
    Calls Tryz.prog 137 ⟨args'⟩ w fun e w' => ∃ ρ' v', e = .returned v' ∧ VRel ρ' (.tuple ⟨[sliceV 3 n n, .int .i64 0]⟩) v' ∧ Next 2 ρ ⟨2, [(0, .cells (panC p 0 n) sz), (1, o)]⟩ w ρ' H' w' := by
  have h := as_eq n (Ex × Env × Objs) (akT 148 n p U) (saysR Tryz.prog 107 (.int .i64 0)) p (flX 1 t m cb) ca sz o (fun ex e O => some (ex, e, O))
  rw [akT_eq (all_call P.al hU (H := ⟨3, [(0, .cells (panC p 0 n) sz), (1, o)]⟩) List.mem_cons_self)] at h
  have h' := h.trans (says_eq (check_call2 hf ho (by simp)))
  have hC : (asC n (akT 148 n p U) (saysR Tryz.prog 107 (.int .i64 0))).Ok := uC_ok .nil (.cons (says_ok rfl) h107 .nil) (.cons akT_ok h148 .nil)
  exact fun_mem (C := asC n (akT 148 n p U) (saysR Tryz.prog 107 (.int .i64 0))) (H := ⟨2, [(0, .cells (panC p 0 n) sz), (1, o)]⟩) (args := [sliceV 0 n ca, .agg ⟨[flX 1 t m cb]⟩]) hC zm_ok Tryz.func137 b137 (fun a ha => by rw [show loopsIn (codeOf 137) = [] by kernel_rfl] at ha; cases ha) (Nat.le_of_ble_eq_true rfl) h' (.inr rfl) (vs := [sliceV 3 n n, .int .i64 0]) rfl
theorem ask_call (hflat : ∀ q, renO q o = some o) {b c ca sz : Nat} {H : AH} (hne : b ≠ c) (hb : (b, .cells (panC p 0 n) sz) ∈ H.objs) (hc : (c, o) ∈ H.objs) :
    MemCall Tryz.prog 137 [sliceV b n ca, .agg ⟨[flX c t m cb]⟩] H (.tuple ⟨[sliceV H.next n n, .int .i64 0]⟩) ⟨H.next + 1, (H.next, .cells (pieC p U 0 n) 0) :: H.objs⟩ := by
  obtain ⟨H', hO, g⟩ := ask_small P hU hf ho (ca := ca) (sz := sz) (cb := cb)
  exact lift_one (j := 3) (within_two (panC_flat p n 0) hflat hne hb hc) ren_args (show 2 ≤ 3 by decide) (hO _ List.mem_cons_self) (pieC_flat p U n 0) (lift_sl (show 2 ≤ 3 by decide)) g
end
end Go.Vm
namespace Go.Vm
open Go.Proofs
set_option linter.unusedVariables false
set_option linter.unusedSimpArgs false
set_option maxRecDepth 1000000

/-! ### row -/
noncomputable def spdT (x y : Nat) (e : Int) : KSd2 := fun R args o a b k =>
  open Classical in if ∀ H : AH, (1, o) ∈ H.objs → FlatCall Tryz.prog 52 (args ++ [.complex .f64 a b]) H (.tuple ⟨[.complex .f64 x y, .int .i64 e]⟩) then k x y e else none
theorem spdT_ok {x y : Nat} {e : Int} : HSumOk Tryz.prog 52 (sSd2 1 (spdT x y e)) := fun R args H k r h => by
  unfold sSd2 at h
  split at h
  · rename_i f a b j o ho
    unfold spdT at h
    split at h
    · rename_i hc
      have hm : (1, o) ∈ H.objs := by
        have hj : (j, o) ∈ takeO [1] H.objs := by rw [ho]; exact List.mem_cons_self
        have h1 := takeO_mem hj
        have : j = 1 := by
          have h2 := hj
          unfold takeO at h2
          cases hl : look 1 H.objs with
          | none => rw [hl] at h2; simp [takeO] at h2
          | some o2 => rw [hl] at h2; simp [takeO] at h2; exact h2.1
        subst this
        exact h1
      exact ⟨_, h, rfl, hc H hm⟩
    · cases h
  · cases h
/-- what comes of all pieces at a middle -/
structure RowV (n i : Nat) (p : Nat → Pn) (U : Nat → Un) (v : Nat → Nat × Nat) (e : Nat → Int) : Prop where
  own : ∀ (R : Type) (k : Nat → Nat → Option R), (conjK R (U i).u1 (U i).u2 fun a b => timesK R a b fun a b => sclK R a b 4602678819172646912 k) = k (v i).1 (v i).2
  ei : e i = 0
  at_ : ∀ j, j < n → j ≠ i → ∀ (R : Type) (k : Nat → Nat → Int → Option R), plK R (p j).f1 (p j).f2 (U j).u1 (U j).u2 (U j).l (U i).m1 (U i).m2 k = k (v j).1 (v j).2 (e j)
theorem updP_eq {v : Nat → Nat × Nat} {i : Nat} {x : Nat × Nat} : updP v i x i = x := by unfold updP; rw [Nat.beq_refl]
theorem updP_ne {v : Nat → Nat × Nat} {i j : Nat} {x : Nat × Nat} (h : j ≠ i) : updP v i x j = v j := by
  unfold updP
  rw [beq_ne h]
def firstE (e : Nat → Int) : Nat → Nat → Int
  | _, 0 => 0
  | k, m + 1 => bif e k != 0 then e k else firstE e (k + 1) m
theorem firstE_zero {e : Nat → Int} : ∀ m k, firstE e k m = 0 → ∀ j, k ≤ j → j < k + m → e j = 0
  | 0, k, _, j, h1, h2 => by omega
  | m + 1, k, h, j, h1, h2 => by
    unfold firstE at h
    cases he : (e k != 0) with
    | true => rw [he] at h; simp at he h; exact absurd h he
    | false =>
      rw [he] at h
      simp at he
      by_cases hj : j = k
      · rw [hj]; exact he
      · exact firstE_zero m (k + 1) h j (by omega) (by omega)
def RowOut (n i : Nat) (p : Nat → Pn) (U : Nat → Un) (v : Nat → Nat × Nat) (e : Nat → Int) (sd : KSd2) (fv : Value) (o : AObj) (m k : Nat) (w : Nat → Nat × Nat) : Prop :=
    (firstE e k m ≠ 0 ∧ ∃ w', ∀ (R : Type) (er : (Nat → Nat × Nat) → Int → Option R) (ok : (Nat → Nat × Nat) → Nat → Nat → Int → Option R), rowK plK sd conjK timesK sclK p U i fv o er ok m k w = er w' (firstE e k m)) ∨
    (firstE e k m = 0 ∧ ∃ w', (∀ j, j < n → w' j = v j) ∧ ∀ (R : Type) (er : (Nat → Nat × Nat) → Int → Option R) (ok : (Nat → Nat × Nat) → Nat → Nat → Int → Option R), rowK plK sd conjK timesK sclK p U i fv o er ok m k w = sd R [fv] o (U i).m1 (U i).m2 fun x y e => ok w' x y e)
theorem row_out {n i : Nat} {p : Nat → Pn} {U : Nat → Un} {v : Nat → Nat × Nat} {e : Nat → Int} (h : RowV n i p U v e) (hi : i < n) (sd : KSd2) (fv : Value) (o : AObj) : ∀ (m k : Nat) (w : Nat → Nat × Nat), k + m = n → (∀ j, j < k → w j = v j) → RowOut n i p U v e sd fv o m k w
  | 0, k, w, hk, hw => .inr ⟨rfl, w, fun j hj => hw j (by omega), fun R er ok => rfl⟩
  | m + 1, k, w, hk, hw => by
    have next : e k = 0 → (∀ (R : Type) (er : (Nat → Nat × Nat) → Int → Option R) (ok : (Nat → Nat × Nat) → Nat → Nat → Int → Option R), rowK plK sd conjK timesK sclK p U i fv o er ok (m + 1) k w = rowK plK sd conjK timesK sclK p U i fv o er ok m (k + 1) (updP w k (v k))) → RowOut n i p U v e sd fv o (m + 1) k w := fun he hs => by
      have hf : firstE e k (m + 1) = firstE e (k + 1) m := by
        conv => lhs; unfold firstE
        rw [he]
        rfl
      unfold RowOut
      rw [hf]
      rcases row_out h hi sd fv o m (k + 1) (updP w k (v k)) (by omega) (fun j hj => by
        by_cases hjk : j = k
        · subst hjk; rw [updP_eq]
        · rw [updP_ne hjk]; exact hw j (by omega)) with ⟨h1, w', h2⟩ | ⟨h0, w', h1, h2⟩
      · exact .inl ⟨h1, w', fun R er ok => (hs R er ok).trans (h2 R er ok)⟩
      · exact .inr ⟨h0, w', h1, fun R er ok => (hs R er ok).trans (h2 R er ok)⟩
    by_cases hki : k = i
    · subst hki
      refine next h.ei fun R er ok => ?_
      conv => lhs; unfold rowK
      rw [Nat.beq_refl]
      simp only
      rw [h.own]
    · have hs : ∀ (R : Type) (er : (Nat → Nat × Nat) → Int → Option R) (ok : (Nat → Nat × Nat) → Nat → Nat → Int → Option R), rowK plK sd conjK timesK sclK p U i fv o er ok (m + 1) k w = (bif e k != 0 then er w (e k) else rowK plK sd conjK timesK sclK p U i fv o er ok m (k + 1) (updP w k (v k))) := fun R er ok => by
        conv => lhs; unfold rowK
        rw [beq_ne hki]
        simp only
        rw [h.at_ k (by omega) hki]
      by_cases he : e k = 0
      · refine next he fun R er ok => ?_
        rw [hs, he]
        rfl
      · have hb : (e k != 0) = true := by simpa using he
        have hf : firstE e k (m + 1) = e k := by
          conv => lhs; unfold firstE
          rw [hb]
          rfl
        refine .inl ⟨by rw [hf]; exact he, w, fun R er ok => ?_⟩
        rw [hs, hf, hb]
        rfl
/-- what row answers -/
inductive RowRes where
  | er (e : Int)
  | sp (x y : Nat) (e : Int)
  | ok (v : Nat → Nat × Nat) (x y : Nat)
def rowTells (n : Nat) (args : List Value) (H : AH) : RowRes → Prop
  | .er e => e ≠ 0 ∧ MemCall Tryz.prog 138 args H (.tuple ⟨[nilS, .complex .f64 0 0, .int .i64 e]⟩) H
  | .sp x y e => e ≠ 0 ∧ MemCall Tryz.prog 138 args H (.tuple ⟨[sliceV H.next n n, .complex .f64 x y, .int .i64 e]⟩) ⟨H.next + 1, H.objs⟩
  | .ok v x y => MemCall Tryz.prog 138 args H (.tuple ⟨[sliceV H.next n n, .complex .f64 x y, .int .i64 0]⟩) ⟨H.next + 1, (H.next, .cells (cxL v 0 n) 0) :: H.objs⟩
def RowRes.go {R : Type} (er : Int → Option R) (sp : Nat → Nat → Int → Option R) (ok : (Nat → Nat × Nat) → Nat → Nat → Option R) : RowRes → Option R
  | .er e => er e
  | .sp x y e => sp x y e
  | .ok v x y => ok v x y
noncomputable def rwT (n : Nat) (res : Nat → RowRes) : KRow := fun R args H er sp ok => match args with
  | [_, _, .int _ i] => open Classical in if rowTells n args H (res i.toNat) then (res i.toNat).go er sp ok else none
  | _ => none
theorem rwT_eq {n : Nat} {res : Nat → RowRes} {R : Type} {a b : Value} {i : Nat} {H : AH} {er : Int → Option R} {sp : Nat → Nat → Int → Option R} {ok : (Nat → Nat × Nat) → Nat → Nat → Option R} (h : rowTells n [a, b, intV i] H (res i)) : rwT n res R [a, b, intV i] H er sp ok = (res i).go er sp ok := by
  show (open Classical in if rowTells n [a, b, intV i] H (res ((i : Int)).toNat) then (res ((i : Int)).toNat).go er sp ok else none) = _
  rw [Int.toNat_natCast, if_pos h]
theorem rwT_ok {n : Nat} {bs : List Nat} {res : Nat → RowRes} : MSumOk Tryz.prog 138 (sRow n bs (rwT n res)) := fun R args H k r h => by
  unfold sRow rwT at h
  split at h
  · rename_i a b kk i
    split at h
    · rename_i hc
      cases hr : res i.toNat with
      | er e =>
        rw [hr] at hc h
        obtain ⟨h0, hc⟩ := hc
        simp only [RowRes.go] at h
        rw [show (e == 0) = false by simpa using h0] at h
        exact ⟨_, _, h, MemCall.sup (O := takeO bs H.objs) (A := []) hc (fun x hx => takeO_mem hx) fun k o hk => by simp at hk⟩
      | sp x y e =>
        rw [hr] at hc h
        obtain ⟨h0, hc⟩ := hc
        simp only [RowRes.go] at h
        rw [show (e == 0) = false by simpa using h0] at h
        exact ⟨_, _, h, MemCall.sup (O := takeO bs H.objs) (A := []) hc (fun x hx => takeO_mem hx) fun k o hk => by simp at hk⟩
      | ok v x y =>
        rw [hr] at hc h
        exact ⟨_, _, h, MemCall.sup (O := takeO bs H.objs) (A := [(H.next, .cells (cxL v 0 n) 0)]) hc (fun x hx => takeO_mem hx) fun k o hk => by
          simp only [List.mem_cons, List.not_mem_nil, or_false] at hk
          cases hk
          exact Nat.le_refl _⟩
    · cases h
  · cases h
def rowRes (n : Nat) (v : Nat → Nat × Nat) (e : Nat → Int) (x y : Nat) (es : Int) : RowRes := bif firstE e 0 n != 0 then .er (firstE e 0 n) else bif es != 0 then .sp x y es else .ok v x y
noncomputable def rwR (x y : Nat) (e : Int) : Cx := rwC plK (spdT x y e) conjK timesK sclK
theorem rwR_ok {x y : Nat} {e : Int} : (rwR x y e).Ok := uC_ok (.cons k147 h147 (.cons k124 h124 (.cons k40 h40 (.cons k39 h39 .nil)))) (.cons spdT_ok h52 .nil) .nil
theorem spdT_eq {x y : Nat} {e : Int} {R : Type} {args : List Value} {o : AObj} {a b : Nat} {k : Nat → Nat → Int → Option R} (h : ∀ H : AH, (1, o) ∈ H.objs → FlatCall Tryz.prog 52 (args ++ [.complex .f64 a b]) H (.tuple ⟨[.complex .f64 x y, .int .i64 e]⟩)) : spdT x y e R args o a b k = k x y e := by
  unfold spdT
  rw [if_pos h]
theorem ren_args3 {b c n i : Nat} {t : Bool} {m cb : Nat} : renL (two b c) [sliceV 0 n n, .agg ⟨[flX 1 t m cb]⟩, intV i] = some [sliceV b n n, .agg ⟨[flX c t m cb]⟩, intV i] := by cases t <;> rfl
/-- THE CONTRACT OF row -/
theorem row_call {n i : Nat} (Q : EqRw n i) (hi : i < n) {p : Nat → Pn} {U : Nat → Un} {v : Nat → Nat × Nat} {e : Nat → Int} (hv : RowV n i p U v e) {t : Bool} {m cb : Nat} {o : AObj} (hflat : ∀ q, renO q o = some o) {x y : Nat} {es : Int}
    (hs : ∀ (b : Nat) (H : AH), (b, o) ∈ H.objs → FlatCall Tryz.prog 52 [flV b t m cb, .complex .f64 (U i).m1 (U i).m2] H (.tuple ⟨[.complex .f64 x y, .int .i64 es]⟩))
    {b c : Nat} {H : AH} (hne : b ≠ c) (hb : (b, .cells (pieC p U 0 n) 0) ∈ H.objs) (hc : (c, o) ∈ H.objs) : rowTells n [sliceV b n n, .agg ⟨[flX c t m cb]⟩, intV i] H (rowRes n v e x y es) := by
  have hq := within_two (pieC_flat p U n 0) hflat hne hb hc
  have hL : ∀ a ∈ loopsIn (codeOf 138), LOk Tryz.prog (rollL (rwR x y es) 100) a := fun a _ => rollL_ok rwR_ok zm_ok 100 a
  have h := Q (Ex × Env × Objs) plK (spdT x y es) conjK timesK sclK p U t m cb 0 o fun ex e O => some (ex, e, O)
  have ha : ([sliceV 0 n n, flV 1 t m cb, intV i] : List Value) = [sliceV 0 n n, .agg ⟨[flX 1 t m cb]⟩, intV i] := by rw [fl_fx]
  unfold rowRes
  rcases row_out hv hi (spdT x y es) (flV 1 t m cb) o n 0 (fun _ => (0, 0)) (by omega) (fun j hj => by omega) with ⟨h1, w, h2⟩ | ⟨h1, w, h2, h3⟩
  · rw [show (firstE e 0 n != 0) = true by simpa using h1, cond_true]
    rw [h2, ha] at h
    obtain ⟨H', hO, g⟩ := fun_mem (C := rwR x y es) (H := ⟨2, [(0, .cells (pieC p U 0 n) 0), (1, o)]⟩) rwR_ok zm_ok Tryz.func138 b138 hL (Nat.le_of_ble_eq_true rfl) h (.inr rfl) (vs := [nilS, .complex .f64 0 0, .int .i64 (firstE e 0 n)]) rfl
    exact ⟨h1, lift_none hq ren_args3 rfl g⟩
  · rw [show (firstE e 0 n != 0) = false by simpa using h1, cond_false]
    rw [h3, spdT_eq (fun H hm => hs 1 H hm), ha] at h
    obtain ⟨H', hO, g⟩ := fun_mem (C := rwR x y es) (H := ⟨2, [(0, .cells (pieC p U 0 n) 0), (1, o)]⟩) rwR_ok zm_ok Tryz.func138 b138 hL (Nat.le_of_ble_eq_true rfl) h (.inr rfl) (vs := [sliceV 3 n n, .complex .f64 x y, .int .i64 es]) rfl
    have hren : ∀ N : Nat, renV (placeC (two b c) 2 N [3]) (.tuple ⟨[sliceV 3 n n, .complex .f64 x y, .int .i64 es]⟩) = some (.tuple ⟨[sliceV N n n, .complex .f64 x y, .int .i64 es]⟩) := fun N => by
      have : placeC (two b c) 2 N [3] 3 = some N := rfl
      simp [renV, renA, renL, sliceV, this]
    by_cases he : es = 0
    · subst he
      rw [show ((0 : Int) != 0) = false from rfl, cond_false]
      have := lift_one (j := 3) hq ren_args3 (show 2 ≤ 3 by decide) (hO _ List.mem_cons_self) (cxL_flat w n 0) (hren _) g
      rw [cxL_congr n 0 fun j _ hj => h2 j (by omega)] at this
      exact this
    · rw [show (es != 0) = true by simpa using he, cond_true]
      exact ⟨he, calls_lift (bs := [3]) (A := []) hq ren_args3 (hren _) (fun k o2 hk => by simp at hk) (fun j hj => by simp only [List.mem_cons, List.not_mem_nil, or_false] at hj; subst hj; exact (show 2 ≤ 3 by decide)) g⟩
end Go.Vm
namespace Go.Vm
open Go.Proofs
set_option linter.unusedVariables false
set_option linter.unusedSectionVars false
set_option linter.unusedSimpArgs false
set_option maxRecDepth 1000000

/-! ### panel.Solve: the contract -/
def qS (n j : Nat) : Option Nat := bif Nat.beq j 0 then some (7 * n + 1) else bif Nat.beq j (n + 1) then some (7 * n + 3) else bif Nat.blt j (n + 2) then some (6 + 7 * (j - 1)) else none
def svL (n : Nat) (A : Nat → Nat → Nat) (b : Nat → Nat) : Objs := (7 * n + 1, .cells (upTo (fun i => sliceV (6 + 7 * i) n n) 0 n) 1) :: (upTo (fun i => (6 + 7 * i, .cells (upTo (fun j => fl (A i j)) 0 n) 0)) 0 n ++ [(7 * n + 3, .cells (upTo (fun i => fl (b i)) 0 n) 1)])
structure EqQ (n : Nat) : Prop where
  args : renL (qS n) (stArgs n n n) = some [fieldV, sliceV (7 * n + 1) n n, sliceV (7 * n + 3) n n]
  objs : ∀ A b, renOs (qS n) (inO n A b 1 0 1).objs = some (svL n A b)
theorem eqq : ∀ n, 3 ≤ n → n ≤ 8 → EqQ n
  | 3, _, _ => ⟨by kernel_rfl, fun A b => by kernel_rfl⟩
  | 4, _, _ => ⟨by kernel_rfl, fun A b => by kernel_rfl⟩
  | 5, _, _ => ⟨by kernel_rfl, fun A b => by kernel_rfl⟩
  | 6, _, _ => ⟨by kernel_rfl, fun A b => by kernel_rfl⟩
  | 7, _, _ => ⟨by kernel_rfl, fun A b => by kernel_rfl⟩
  | 8, _, _ => ⟨by kernel_rfl, fun A b => by kernel_rfl⟩
  | 0, h, _ => absurd h (by omega)
  | 1, h, _ => absurd h (by omega)
  | 2, h, _ => absurd h (by omega)
  | n + 9, _, h => absurd h (by omega)
theorem qS_inj {n j j' k : Nat} (h1 : qS n j = some k) (h2 : qS n j' = some k) : j = j' := by
  have key : ∀ {j k : Nat}, qS n j = some k → (j = 0 ∧ k = 7 * n + 1) ∨ (j = n + 1 ∧ k = 7 * n + 3) ∨ (0 < j ∧ j < n + 1 ∧ k = 6 + 7 * (j - 1)) := fun {j k} h => by
    unfold qS at h
    cases h0 : Nat.beq j 0 with
    | true => rw [h0] at h; simp at h; exact .inl ⟨Nat.eq_of_beq_eq_true h0, h.symm⟩
    | false =>
      rw [h0] at h
      cases h1 : Nat.beq j (n + 1) with
      | true => rw [h1] at h; simp at h; exact .inr (.inl ⟨Nat.eq_of_beq_eq_true h1, h.symm⟩)
      | false =>
        rw [h1] at h
        cases h2 : Nat.blt j (n + 2) with
        | false => rw [h2] at h; simp at h
        | true =>
          rw [h2] at h
          simp at h
          rw [Nat.blt_eq] at h2
          have e0 : j ≠ 0 := fun e => by subst e; simp at h0
          have e1 : j ≠ n + 1 := fun e => by subst e; simp at h1
          exact .inr (.inr ⟨by omega, by omega, h.symm⟩)
  rcases key h1 with a | a | a <;> rcases key h2 with b | b | b <;> omega
theorem qS_dom {n j k : Nat} (h : qS n j = some k) : j < n + 2 := by
  unfold qS at h
  cases h0 : Nat.beq j 0 with
  | true => have := Nat.eq_of_beq_eq_true h0; omega
  | false =>
    rw [h0] at h
    cases h1 : Nat.beq j (n + 1) with
    | true => have := Nat.eq_of_beq_eq_true h1; omega
    | false =>
      rw [h1] at h
      cases h2 : Nat.blt j (n + 2) with
      | false => rw [h2] at h; simp at h
      | true => rw [Nat.blt_eq] at h2; exact h2
theorem svL_mem {n : Nat} {A : Nat → Nat → Nat} {b : Nat → Nat} : ∀ x, x ∈ svL n A b → x ∈ (svH n A b).objs := fun x hx => by
  unfold svL at hx
  unfold svH
  simp only [List.mem_cons, List.mem_append, List.not_mem_nil, or_false] at hx ⊢
  rcases hx with hx | hx | hx
  · exact .inl hx
  · exact .inr (.inr hx)
  · exact .inr (.inl hx)
theorem within_sv {n : Nat} (Q : EqQ n) {A : Nat → Nat → Nat} {b : Nat → Nat} : Within (qS n) (inO n A b 1 0 1) (svH n A b) where
  obj := fun j o hm => by
    obtain ⟨k, o2, h1, h2, h3⟩ := renOs_back (Q.objs A b) hm
    exact ⟨k, o2, h2, h3, svL_mem _ h1⟩
  lt := fun j o hm => by
    obtain ⟨k, h1, h2, e⟩ := mem_upTo.1 hm
    cases e
    show j < n + 2
    omega
  one := fun j o o' h1 h2 => by
    obtain ⟨k, _, _, e⟩ := mem_upTo.1 h1
    obtain ⟨k', _, _, e'⟩ := mem_upTo.1 h2
    cases e
    cases e'
    rfl
  inj := fun j j' k h1 h2 => qS_inj h1 h2
  dom := fun j k h => qS_dom h
/-- the solver, told, of but some blocks -/
theorem svW_ok {n : Nat} {bs : List Nat} {res : Option (Nat → Nat)} : MSumOk Tryz.prog 214 (sSw n bs (svT n res)) := fun R args H k r h => by
  unfold sSw svT at h
  split at h
  · split at h
    · rename_i hc
      exact ⟨_, _, h, MemCall.sup (O := takeO bs H.objs) (A := []) hc (fun x hx => takeO_mem hx) fun k o hk => by simp at hk⟩
    · cases h
  · rename_i xs
    split at h
    · rename_i hc
      exact ⟨_, _, h, MemCall.sup (O := takeO bs H.objs) (A := xsA H.next n xs) hc (fun x hx => takeO_mem hx) fun k o hk => by
        simp only [xsA, List.mem_cons, List.not_mem_nil, or_false] at hk
        cases hk
        exact Nat.le_refl _⟩
    · cases h
theorem within_k2 {R : Type} {a m : Nat} {k : Bool → Option R} : withinK R a m k = k (leF (absW a) m) := by
  show forceB (leF (absW a) m) (fun t => k t) = _
  rw [forceB_eq]
def allIn (xs : Nat → Nat) : Nat → Nat → Bool
  | 0, _ => true
  | m + 1, i => leF (absW (xs i)) 4787326403894837248 && allIn xs m (i + 1)
theorem wiK_told {R : Type} {xs : Nat → Nat} {er ok : Option R} : ∀ m i, wiK withinK xs er ok m i = bif allIn xs m i then ok else er
  | 0, _ => rfl
  | m + 1, i => by
    simp only [wiK, allIn]
    rw [within_k2]
    cases leF (absW (xs i)) 4787326403894837248 with
    | true => simp only [cond_true, Bool.true_and]; exact wiK_told m (i + 1)
    | false => rfl
theorem allIn_get {xs : Nat → Nat} : ∀ m i, allIn xs m i = true → ∀ j, i ≤ j → j < i + m → leF (absW (xs j)) 4787326403894837248 = true
  | 0, i, _, j, h1, h2 => by omega
  | m + 1, i, h, j, h1, h2 => by
    simp only [allIn, Bool.and_eq_true] at h
    by_cases hj : j = i
    · rw [hj]; exact h.1
    · exact allIn_get m (i + 1) h.2 j (by omega) (by omega)
/-! ### the rows -/
/-- what the rows come to, if all is well -/
structure RowD (n : Nat) (U : Nat → Un) (v : Nat → Nat → Nat × Nat) (xy : Nat → Nat × Nat) (cA : Nat → Nat → Nat) (cB : Nat → Nat) (i : Nat) : Prop where
  a : ∀ j, j < n → ∃ x, ∀ (R : Type) (k : Nat → Nat → Option R), mulK R (v i j).1 (v i j).2 (U i).u1 (U i).u2 k = k x (cA i j)
  b : ∃ x, ∀ (R : Type) (k : Nat → Nat → Option R), mulK R (xy i).1 (xy i).2 (U i).u1 (U i).u2 k = k x (cB i)
def matA (cA : Nat → Nat → Nat) (i j : Nat) : Nat := bif Nat.beq j i then 4602678819172646912 else cA i j
def vecB (cB : Nat → Nat) (i : Nat) : Nat := Op.negFloat .f64 (cB i)
theorem muRow_told {n : Nat} {U : Nat → Un} {v : Nat → Nat → Nat × Nat} {xy : Nat → Nat × Nat} {cA : Nat → Nat → Nat} {cB : Nat → Nat} {i : Nat} (h : RowD n U v xy cA cB i) : ∀ (m j : Nat) (a : Nat → Nat), j + m = n → (∀ l, l < j → a l = cA i l) →
    ∃ a', (∀ l, l < n → a' l = cA i l) ∧ ∀ (R : Type) (k : (Nat → Nat) → Option R), muRow mulK (v i) (U i) m j a k = k a'
  | 0, j, a, hj, ha => ⟨a, fun l hl => ha l (by omega), fun R k => rfl⟩
  | m + 1, j, a, hj, ha => by
    obtain ⟨x, hx⟩ := h.a j (by omega)
    obtain ⟨a', h1, h2⟩ := muRow_told h m (j + 1) (upd1 a j (cA i j)) (by omega) (fun l hl => by
      by_cases hlj : l = j
      · rw [hlj, upd1_eq]
      · rw [upd1_ne hlj]; exact ha l (by omega))
    refine ⟨a', h1, fun R k => ?_⟩
    simp only [muRow]
    rw [hx]
    exact h2 R k
section
variable {n : Nat} {U : Nat → Un} {v : Nat → Nat → Nat × Nat} {e : Nat → Nat → Int} {xy : Nat → Nat × Nat} {es : Nat → Int} {cA : Nat → Nat → Nat} {cB : Nat → Nat} {p : Nat → Pn} {fv : Value} {o : AObj}
def okRow (n : Nat) (e : Nat → Nat → Int) (es : Nat → Int) (i : Nat) : Prop := firstE (e i) 0 n = 0 ∧ es i = 0
def resR (n : Nat) (v : Nat → Nat → Nat × Nat) (e : Nat → Nat → Int) (xy : Nat → Nat × Nat) (es : Nat → Int) (i : Nat) : RowRes := rowRes n (v i) (e i) (xy i).1 (xy i).2 (es i)
theorem res_cases (i : Nat) : (okRow n e es i ∧ resR n v e xy es i = .ok (v i) (xy i).1 (xy i).2) ∨ (¬ okRow n e es i ∧ ∃ e0, (e0 ≠ 0 ∧ (e0 = firstE (e i) 0 n ∨ e0 = es i)) ∧ ((resR n v e xy es i = .er e0) ∨ ∃ x y, resR n v e xy es i = .sp x y e0)) := by
  unfold resR rowRes okRow
  by_cases h1 : firstE (e i) 0 n = 0
  · rw [show (firstE (e i) 0 n != 0) = false by simpa using h1, cond_false]
    by_cases h2 : es i = 0
    · rw [show (es i != 0) = false by simpa using h2]
      exact .inl ⟨⟨h1, h2⟩, rfl⟩
    · rw [show (es i != 0) = true by simpa using h2]
      exact .inr ⟨fun h => h2 h.2, _, ⟨h2, .inr rfl⟩, .inr ⟨_, _, rfl⟩⟩
  · rw [show (firstE (e i) 0 n != 0) = true by simpa using h1]
    exact .inr ⟨fun h => h1 h.1, _, ⟨h1, .inl rfl⟩, .inl rfl⟩
theorem rows_told (hpos : ∀ i, i < n → 0 ≤ firstE (e i) 0 n ∧ 0 ≤ es i) (hd : ∀ i, i < n → okRow n e es i → RowD n U v xy cA cB i) (ht : ∀ i, i < n → rowTells n [sliceV 3 n n, fv, intV i] ⟨5 + 7 * i, [(3, .cells (pieC p U 0 n) 0), (1, o)]⟩ (resR n v e xy es i)) :
    ∀ (m i : Nat) (A : Nat → Nat → Nat) (b : Nat → Nat), i + m = n → (∀ r, r < i → okRow n e es r ∧ (∀ j, j < n → A r j = matA cA r j) ∧ b r = vecB cB r) →
      (∃ e0, 0 < e0 ∧ ∀ (R : Type) (er : Int → Option R) (k : (Nat → Nat → Nat) → (Nat → Nat) → Option R), rowsK n mulK (rwT n (resR n v e xy es)) p U fv o er m i A b k = er e0) ∨
      ((∀ i, i < n → okRow n e es i) ∧ ∀ (R : Type) (er : Int → Option R) (k : (Nat → Nat → Nat) → (Nat → Nat) → Option R), (∀ A b, (∀ r, r < n → (∀ j, j < n → A r j = matA cA r j) ∧ b r = vecB cB r) → k A b = k (matA cA) (vecB cB)) →
        rowsK n mulK (rwT n (resR n v e xy es)) p U fv o er m i A b k = k (matA cA) (vecB cB))
  | 0, i, A, b, hi, hA => .inr ⟨fun r hr => (hA r (by omega)).1, fun R er k hk => hk A b fun r hr => (hA r (by omega)).2⟩
  | m + 1, i, A, b, hi, hA => by
    have h1 : ∀ (R : Type) (er : Int → Option R) (k : (Nat → Nat → Nat) → (Nat → Nat) → Option R), rowsK n mulK (rwT n (resR n v e xy es)) p U fv o er (m + 1) i A b k = (resR n v e xy es i).go (fun e => bif e == 0 then none else bif e != 0 then er e else none) (fun _ _ e => bif e == 0 then none else bif e != 0 then er e else none) fun w x y =>
      muRow mulK w (U i) n 0 (fun _ => 0) fun a => mulK R x y (U i).u1 (U i).u2 fun _ y => forceN (Op.negFloat .f64 y) fun y => rowsK n mulK (rwT n (resR n v e xy es)) p U fv o er m (i + 1) (updRow A i (upd1 a i 4602678819172646912)) (upd1 b i y) k := fun R er k => by
      simp only [rowsK]
      rw [rwT_eq (ht i (by omega))]
    have nz : ∀ {e0 : Int}, e0 ≠ 0 → ∀ {R : Type} {er : Int → Option R}, (bif e0 == 0 then none else bif e0 != 0 then er e0 else none) = er e0 := fun {e0} h0 {R er} => by
      rw [show (e0 == 0) = false by simpa using h0, show (e0 != 0) = true by simpa using h0]
      rfl
    rcases res_cases (n := n) (v := v) (e := e) (xy := xy) (es := es) i with ⟨hok, hr⟩ | ⟨hno, e0, ⟨h0, hor⟩, hr | ⟨x, y, hr⟩⟩
    · have D := hd i (by omega) hok
      obtain ⟨a', ha', hm⟩ := muRow_told D n 0 (fun _ => 0) (by omega) (fun l hl => by omega)
      obtain ⟨x, hx⟩ := D.b
      have step : ∀ (R : Type) (er : Int → Option R) (k : (Nat → Nat → Nat) → (Nat → Nat) → Option R), rowsK n mulK (rwT n (resR n v e xy es)) p U fv o er (m + 1) i A b k = rowsK n mulK (rwT n (resR n v e xy es)) p U fv o er m (i + 1) (updRow A i (upd1 a' i 4602678819172646912)) (upd1 b i (vecB cB i)) k := fun R er k => by
        rw [h1, hr]
        simp only [RowRes.go]
        rw [hm, hx, forceN_eq]
        rfl
      have inv : ∀ r, r < i + 1 → okRow n e es r ∧ (∀ j, j < n → updRow A i (upd1 a' i 4602678819172646912) r j = matA cA r j) ∧ upd1 b i (vecB cB i) r = vecB cB r := fun r hr => by
        by_cases hri : r = i
        · subst hri
          refine ⟨hok, fun j hj => ?_, upd1_eq⟩
          unfold updRow matA
          rw [Nat.beq_refl]
          simp only
          by_cases hj2 : j = r
          · subst hj2
            rw [upd1_eq, Nat.beq_refl]
            rfl
          · rw [upd1_ne hj2, ha' j hj, beq_ne hj2]
            rfl
        · have g := hA r (by omega)
          refine ⟨g.1, fun j hj => ?_, ?_⟩
          · unfold updRow
            rw [beq_ne hri]
            exact g.2.1 j hj
          · rw [upd1_ne hri]
            exact g.2.2
      rcases rows_told hpos hd ht m (i + 1) _ _ (by omega) inv with ⟨e0, g1, g2⟩ | ⟨g1, g2⟩
      · exact .inl ⟨e0, g1, fun R er k => (step R er k).trans (g2 R er k)⟩
      · exact .inr ⟨g1, fun R er k hk => (step R er k).trans (g2 R er k hk)⟩
    · refine .inl ⟨e0, by have := hpos i (by omega); rcases hor with g | g <;> omega, fun R er k => ?_⟩
      rw [h1, hr]
      exact nz h0
    · refine .inl ⟨e0, by have := hpos i (by omega); rcases hor with g | g <;> omega, fun R er k => ?_⟩
      rw [h1, hr]
      exact nz h0
end
end Go.Vm
