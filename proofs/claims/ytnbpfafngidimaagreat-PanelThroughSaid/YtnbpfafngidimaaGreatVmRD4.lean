/- A part of the evaluator and of what is told of floats; no conditions. The code of PanelHalves and of its small functions computes just what is told of them; no conditions. -/
import Derived.Test.YtnbpfafngidimaaGreatVmZ9
import Derived.Test.YtnbpfafngidimaaGreatVmV0
import Derived.Test.YtnbpfafngidimaaGreatVmLR
import Derived.Test.YtnbpfafngidimaaGreatVmU1
namespace Go.Vm
open Go.Proofs
set_option linter.unusedVariables false
set_option linter.unusedSectionVars false
set_option linter.unusedSimpArgs false
set_option maxRecDepth 1000000

/-! ### RingApart: the other ways -/
/-- loops that are gone through as they come -/
def rollL (C : Cx) (n : Nat) : Hand := fun R lo sz a e H k => evCode C (n + 1) lo sz (.loop a) e H k
theorem rollL_ok {C : Cx} (hC : C.Ok) (hmix : C.P.follows .mixedOrders = true) (n : Nat) (a : Code) : LOk C.P (rollL C n) a := fun R lo sz e H k r h => by
  obtain ⟨ex, e', H', h1, h2⟩ := (evCode_sound hC hmix (n + 1)).1 lo sz (.loop a) e H k r h
  exact ⟨ex, e', H', h1, @h2⟩
section
variable (L L1 L2 : Hand) (fi : Fi) (R : Type) (gi gk : GI) (gc : GC) (st : St) (ap : Ap) (sm : KG2B) (of : KG2C) (len : KCF) (sc : KCFC) (ti : KCC) (ne : KCCFB) (ga g0 g1 g2 gx gy : HT) (mi : MT) (cs es : List Value)
  (sz n c : Nat) (x y r : Int) (K : Ex → Env → Objs → Option R)
end
end Go.Vm
namespace Go.Vm
open Go.Proofs
set_option linter.unusedVariables false
set_option maxRecDepth 1000000

/-! ### PanelHalves' functions -/
theorem zh_unit (fC : KC1) (gr : KCF) (scd : KCCI) (sq : KCF) (rt : KFF) (R : Type) (a b : Nat) (k : Value → Option R) :
  evFn (cx Tryz.prog [(93, sCB1 fC), (115, sCF gr), (116, sCCI scd), (119, sCF sq), (118, sFF rt)]) 60 123 [.complex .f64 a b] k = unitB fC gr scd sq rt R a b fun x y t => k (.tuple ⟨[.complex .f64 x y, .bool t]⟩) := by kernel_rfl
theorem zh_whole (fi : Fi) (R : Type) (n : Int) (k : Value → Option R) : evFn (cxf fi Tryz.prog [] []) 60 134 [.int .i64 n] k = whole17B fi R n fun x => k (.float .f64 x) := by kernel_rfl
end Go.Vm
namespace Go.Vm
open Go.Proofs
set_option linter.unusedVariables false
set_option linter.unusedSimpArgs false
set_option maxRecDepth 1000000

/-! ### PanelThrough: what stands in the place of what is called -/
abbrev KSpV := ∀ R : Type, Int → Nat → Nat → Nat → Nat → Nat → Nat → Nat → (Nat → Nat → Int → Option R) → Option R
def sSpV (g : KSpV) : Sum := fun R args k => match args with
  | [.agg ⟨[.int .u8 kind, .complex .f64 a1 a2, .complex .f64 s1 s2, .float .f64 p]⟩, .complex .f64 z1 z2] => g R kind a1 a2 s1 s2 p z1 z2 fun a b e => k (.tuple ⟨[.complex .f64 a b, .int .i64 e]⟩)
  | _ => none
abbrev KCI := ∀ R : Type, Nat → Nat → (Int → Option R) → Option R
def sCI (g : KCI) : Sum := fun R args k => match args with
  | [.complex .f64 a b] => g R a b fun e => k (.int .i64 e)
  | _ => none
def pieceV (f1 f2 t1 t2 s u1 u2 m1 m2 l : Nat) : Value := .agg ⟨[.complex .f64 f1 f2, .complex .f64 t1 t2, .float .f64 s, .complex .f64 u1 u2, .complex .f64 m1 m2, .float .f64 l]⟩
/-- a piece at a place -/
abbrev KPat := ∀ R : Type, Nat → Nat → Nat → Nat → Nat → Nat → Nat → (Nat → Nat → Int → Option R) → Option R
def sPat (g : KPat) : Sum := fun R args k => match args with
  | [.agg ⟨[.complex .f64 f1 f2, .complex .f64 t1 t2, .float .f64 s, .complex .f64 u1 u2, .complex .f64 m1 m2, .float .f64 l]⟩, .complex .f64 z1 z2] => g R f1 f2 u1 u2 l z1 z2 fun a b e => k (.tuple ⟨[.complex .f64 a b, .int .i64 e]⟩)
  | _ => none
/-- no great lists; all loops gone through as they come -/
def noMm : Mm := mmOf (fun _ => false) [] (fun _ _ _ _ _ => none) (fun _ _ _ _ _ _ _ _ _ => none)
noncomputable def uC (fi : Fi) (l : List (Nat × Sum)) (gl : List (Nat × HSum)) (ml : List (Nat × MSum)) : Cx := { cxM fi Tryz.prog (fun _ _ => none) l [] gl ml noMm with wild := wildT }
end Go.Vm
namespace Go.Vm
open Go.Proofs
set_option linter.unusedVariables false
set_option linter.unusedSimpArgs false
theorem noMm_ok : noMm.Ok Tryz.prog := ⟨(fun t g h => by cases h), (fun R cs off vs k r h => by cases h), (fun R t cs n c cx off m k r h => by cases h)⟩
theorem uC_ok {l : List (Nat × Sum)} (hl : AllOk Tryz.prog l) {gl : List (Nat × HSum)} (hg : GsOk Tryz.prog gl) {ml : List (Nat × MSum)} (hml : MsOk Tryz.prog ml) : (uC fiReal l gl ml).Ok :=
  let h := cxM_ok (P := Tryz.prog) no_meth hl no_ext hg hml noMm_ok
  { fair := h.fair, sums := h.sums, exts := h.exts, meths := h.meths, hs := h.hs, nan1 := h.nan1, gs := h.gs, ms := h.ms, mg := h.mg, mm := h.mm }
end Go.Vm
namespace Go.Vm
set_option linter.unusedVariables false
set_option linter.unusedSimpArgs false

/-! ### Loops by a handler, held against a state ahead: the loops may give new names to blocks made since -/
def LOkB (P : Program) (H0 : AH) (L : Hand) (a : Code) : Prop :=
  ∀ (R : Type) (lo sz : Nat) (e : Env) (H : AH) (k : Ex → Env → AH → Option R) (r : R), L R lo sz a e H k = some r →
    ∃ ex e' H', k ex e' H' = some r ∧ BaseOk P lo sz H0 e H ex e' H' (fun Q act w => Code.wp P (.loop a) Q act w)
theorem LOk.baseB {P : Program} {H0 : AH} {L : Hand} {a : Code} (h : LOk P L a) : LOkB P H0 L a := fun R lo sz e H k r hr => by
  obtain ⟨ex, e', H', h1, h2⟩ := h R lo sz e H k r hr
  exact ⟨ex, e', H', h1, CodeOk.base @h2⟩
theorem noL_okB {P : Program} {H0 : AH} {a : Code} : LOkB P H0 noL a := fun R lo sz e H k r h => by cases h
theorem orL_okB {P : Program} {H0 : AH} {t : Nat} {A B : Hand} {a : Code} (hA : LOkB P H0 A a) (hB : LOkB P H0 B a) : LOkB P H0 (orL t A B) a := fun R lo sz e H k r h => by
  unfold orL at h
  split at h
  · exact hA R lo sz e H k r h
  · exact hB R lo sz e H k r h
/-- a loop that is told at once: where it ends, with what; g asserts it -/
abbrev LT := ∀ R : Type, Nat → Nat → Code → Env → AH → Ex → Env → AH → Option R → Option R
noncomputable def tellR (P : Program) (H0 : AH) : LT := fun R lo sz a e H ex e' H' k =>
  open Classical in if BaseOk P lo sz H0 e H ex e' H' (fun Q act w => Code.wp P (.loop a) Q act w) then k else none
theorem tell_eqB {P : Program} {H0 : AH} {lo sz : Nat} {a : Code} {e : Env} {H : AH} {ex : Ex} {e' : Env} {H' : AH} {R : Type} {k : Option R} (h : BaseOk P lo sz H0 e H ex e' H' (fun Q act w => Code.wp P (.loop a) Q act w)) : tellR P H0 R lo sz a e H ex e' H' k = k := by
  unfold tellR
  rw [if_pos h]
theorem base_loopB {P : Program} {lo sz : Nat} {a : Code} {H0 : AH} {e e' : Env} {H H' : AH} {ex : Ex} (h : BaseRounds P lo sz H0 a e H ex e' H') : BaseOk P lo sz H0 e H ex e' H' (fun Q act w => Code.wp P (.loop a) Q act w) := by
  obtain ⟨n, h⟩ := h
  exact fun ρ0 w0 ρ w act hi hlo hn he hs Q hQ => wp_loop_rounds n (h _ _ _ _ _ hi hlo hn he hs Q hQ)

theorem evTop_base {R : Type} {C : Cx} (hC : C.Ok) (hmix : C.P.follows .mixedOrders = true) {n : Nat} {H0 : AH} {L : Hand} {lo sz : Nat} : ∀ (c : Code) (_ : ∀ a ∈ loopsIn c, LOkB C.P H0 L a) (e : Env) (H : AH) (k : Ex → Env → AH → Option R) (r : R), evTop C n L lo sz c e H k = some r →
    ∃ ex e' H', k ex e' H' = some r ∧ BaseOk C.P lo sz H0 e H ex e' H' (fun Q a w => c.wp C.P Q a w) := by
  intro c
  induction c with
  | skip => exact fun _ e H k r h => ⟨.normal, e, H, h, fun ρ0 w0 ρ w a hi hlo hn he hs Q hQ => wp_skip (hQ ρ a w hn he hs rfl)⟩
  | region id ops draw =>
    intro _ e H k r h
    obtain ⟨ex, e', H', h1, h2⟩ := region_sound hC hmix (n := n) (id := id) (ops := ops) (draw := draw) (lo := lo) (sz := sz) (e := e) (H := H) (k := k) (r := r) (by simp only [evCode]; exact h)
    exact ⟨ex, e', H', h1, CodeOk.base @h2⟩
  | seq x y ihx ihy =>
    intro hL e H k r h
    simp only [evTop] at h
    obtain ⟨ex, e1, H1, h1, h2⟩ := ihx (fun a ha => hL a (by simp [loopsIn, ha])) _ _ _ _ h
    cases ex with
    | normal =>
      simp only at h1
      obtain ⟨ex', e', H', g1, g2⟩ := ihy (fun a ha => hL a (by simp [loopsIn, ha])) _ _ _ _ h1
      refine ⟨ex', e', H', g1, fun ρ0 w0 ρ w a hi hlo hn he hs Q hQ => wp_seq ?_⟩
      refine h2 _ _ _ _ _ hi hlo hn he hs _ fun ρ1 a1 w1 m1 m2 m3 m4 => ?_
      exact g2 _ _ _ _ _ hi hlo m1 m2 m3 Q fun ρ' a' w' q1 q2 q3 q4 => hQ ρ' a' w' q1 q2 q3 (q4.trans m4)
    | exit id => exact ⟨.exit id, e1, H1, h1, fun ρ0 w0 ρ w a hi hlo hn he hs Q hQ => wp_seq (h2 _ _ _ _ _ hi hlo hn he hs _ fun ρ1 a1 w1 m1 m2 m3 m4 => hQ ρ1 a1 w1 m1 m2 m3 m4)⟩
    | ret => exact ⟨.ret, e1, H1, h1, fun ρ0 w0 ρ w a hi hlo hn he hs Q hQ => wp_seq (h2 _ _ _ _ _ hi hlo hn he hs _ fun ρ1 a1 w1 m1 m2 m3 m4 => hQ ρ1 a1 w1 m1 m2 m3 m4)⟩
  | cond x y z ihy ihz =>
    intro hL e H k r h
    simp only [evTop] at h
    obtain ⟨v, h1, h⟩ := bind_some' h
    split at h
    · rename_i t
      have hc : ∀ {ρ : Map} {a : Act}, EnvRel ρ e a.tmps → a.eval x = .bool t := fun {ρ a} he => by
        have := opd_rel he h1
        generalize a.eval x = v' at *
        cases this
        rfl
      cases t with
      | true =>
        obtain ⟨ex, e', H', g1, g2⟩ := ihy (fun a ha => hL a (by simp [loopsIn, ha])) _ _ _ _ (by simpa using h)
        exact ⟨ex, e', H', g1, fun ρ0 w0 ρ w a hi hlo hn he hs Q hQ => wp_cond_true (hc he) (g2 _ _ _ _ _ hi hlo hn he hs Q hQ)⟩
      | false =>
        obtain ⟨ex, e', H', g1, g2⟩ := ihz (fun a ha => hL a (by simp [loopsIn, ha])) _ _ _ _ (by simpa using h)
        exact ⟨ex, e', H', g1, fun ρ0 w0 ρ w a hi hlo hn he hs Q hQ => wp_cond_false (hc he) (g2 _ _ _ _ _ hi hlo hn he hs Q hQ)⟩
    · cases h
  | block id x ihx =>
    intro hL e H k r h
    simp only [evTop] at h
    obtain ⟨ex, e1, H1, h1, h2⟩ := ihx (fun a ha => hL a (by simp [loopsIn, ha])) _ _ _ _ h
    cases ex with
    | normal => exact ⟨.normal, e1, H1, h1, fun ρ0 w0 ρ w a hi hlo hn he hs Q hQ => wp_block (h2 _ _ _ _ _ hi hlo hn he hs _ fun ρ1 a1 w1 m1 m2 m3 m4 => hQ ρ1 a1 w1 m1 m2 m3 m4)⟩
    | ret => exact ⟨.ret, e1, H1, h1, fun ρ0 w0 ρ w a hi hlo hn he hs Q hQ => wp_block (h2 _ _ _ _ _ hi hlo hn he hs _ fun ρ1 a1 w1 m1 m2 m3 m4 => hQ ρ1 a1 w1 m1 m2 m3 m4)⟩
    | exit j =>
      simp only at h1
      cases hj : Nat.beq j id with
      | true =>
        rw [hj] at h1
        have := Nat.eq_of_beq_eq_true hj
        subst this
        refine ⟨.normal, e1, H1, h1, fun ρ0 w0 ρ w a hi hlo hn he hs Q hQ => wp_block (h2 _ _ _ _ _ hi hlo hn he hs _ fun ρ1 a1 w1 m1 m2 m3 m4 => ?_)⟩
        simp only [Ex.to, Exit.inBlock, if_true]
        exact hQ ρ1 a1 w1 m1 m2 m3 m4
      | false =>
        rw [hj] at h1
        have hne : j ≠ id := fun e => by subst e; simp at hj
        refine ⟨.exit j, e1, H1, h1, fun ρ0 w0 ρ w a hi hlo hn he hs Q hQ => wp_block (h2 _ _ _ _ _ hi hlo hn he hs _ fun ρ1 a1 w1 m1 m2 m3 m4 => ?_)⟩
        simp only [Ex.to, Exit.inBlock, if_neg hne]
        exact hQ ρ1 a1 w1 m1 m2 m3 m4
  | loop x _ => exact fun hL e H k r h => hL x (by simp [loopsIn]) _ _ _ _ _ _ _ h
  | exit id => exact fun _ e H k r h => ⟨.exit id, e, H, h, fun ρ0 w0 ρ w a hi hlo hn he hs Q hQ => wp_exit (hQ ρ a w hn he hs rfl)⟩
  | ret => exact fun _ e H k r h => ⟨.ret, e, H, h, fun ρ0 w0 ρ w a hi hlo hn he hs Q hQ => wp_ret (hQ ρ a w hn he hs rfl)⟩
  | _ => exact fun _ e H k r h => by simp [evTop] at h
/-- told to start: by new names -/
theorem BaseOk.front {P : Program} {lo sz : Nat} {H0 H H' : AH} {e e2 e' : Env} {ex : Ex} {W : (Exit → Act → World → Prop) → Act → World → Prop} {ts bo bs : List Nat} {A B D : Objs} (h : BaseOk P lo sz H0 e2 ⟨H0.next + bs.length, A ++ B⟩ ex e' H' W)
    (he : renE (placeW H0.next bs) (takeE ts e) = some e2) (hO : renOs (placeW H0.next bs) (takeO bo H.objs) = some A) (hbs : bs.all (Nat.ble H0.next) = true)
    (hD : H0.objs = D ++ B) (hB : ltB lo B = true) (hA : geB lo A = true) (hd : geB lo D = true) : BaseOk P lo sz H0 e H ex e' H' W :=
  fun ρ0 w0 ρ w a hi hlo hn hev hs Q hQ => by
    have hpid : ∀ k s, ρ0 k = some s → placeW H0.next bs k = some k := fun k s hk => by unfold placeW; rw [blt_true (hi.lt hk)]; rfl
    obtain ⟨g1, g2⟩ := Next.rename hi hlo hn (bs := bs) (O := A ++ B) (fun k o2 hm => by
      rcases List.mem_append.1 hm with hm | hm
      · obtain ⟨j, o, q1, q2⟩ := renOs_mem hO hm
        exact ⟨j, o, takeO_mem q1, q2⟩
      · have hk := ltB_mem hB hm
        have hm0 : (k, o2) ∈ H0.objs := by rw [hD]; exact List.mem_append_right _ hm
        obtain ⟨s, e1, e2⟩ := hi.rel.obj k o2 hm0
        exact ⟨k, o2, (hn.old k o2 hk).2 hm0, hpid k s e1, e2.ren_id hpid⟩) (fun j hj => by
      have := List.all_eq_true.1 hbs j hj
      rwa [Nat.ble_eq] at this) (fun k o hk => by rw [hD]; exact old_split hA hd k o hk)
    refine h ρ0 w0 _ w a hi hlo g1 (fun t v hv => ?_) hs Q hQ
    obtain ⟨v1, q1, q2⟩ := renE_get he hv
    obtain ⟨v', r1, r2⟩ := hev t v1 (getE_take q1)
    exact ⟨v', r1, r2.ren g2 q2⟩
theorem Next.less {lo : Nat} {ρ0 ρ : Map} {H0 H : AH} {w0 w : World} {bo : List Nat} (m1 : Next lo ρ0 H0 w0 ρ H w) (hbo : oldIn lo bo H0.objs = true) : Next lo ρ0 H0 w0 ρ ⟨H.next, takeO bo H.objs⟩ w where
  inv := m1.inv.sub (H := H) fun x hx => takeO_mem hx
  same := m1.same
  nx := m1.nx
  size := m1.size
  os := m1.os
  tape := m1.tape
  output := m1.output
  keep := m1.keep
  own := fun k o s hk hm he => m1.own k o s hk (takeO_mem hm) he
  old := fun k o hk => ⟨fun hm => (m1.old k o hk).1 (takeO_mem hm), fun hm => by
    have hm' := (m1.old k o hk).2 hm
    obtain ⟨o', ho'⟩ := look_of_mem hm'
    have := m1.inv.one k o o' hm' (look_mem ho')
    subst this
    exact takeO_of ho' (oldIn_mem hbo hm hk)⟩
/-- less is told behind -/
theorem BaseOk.less {P : Program} {lo sz : Nat} {H0 H H' : AH} {e e' : Env} {ex : Ex} {W : (Exit → Act → World → Prop) → Act → World → Prop} {ts bo : List Nat} (h : BaseOk P lo sz H0 e H ex e' H' W) (hbo : oldIn lo bo H0.objs = true) : BaseOk P lo sz H0 e H ex (takeE ts e') ⟨H'.next, takeO bo H'.objs⟩ W :=
  fun ρ0 w0 ρ w a hi hlo hn hev hs Q hQ => h ρ0 w0 ρ w a hi hlo hn hev hs Q fun ρ' a' w' m1 m2 m3 m4 => hQ ρ' a' w' (m1.less hbo) (fun t v hv => m2 t v (getE_take hv)) m3 m4
/-- more may be told ahead -/
theorem BaseOk.more {P : Program} {lo sz : Nat} {H0 H H' : AH} {e e' : Env} {ex : Ex} {W : (Exit → Act → World → Prop) → Act → World → Prop} {ts bo : List Nat} (h : BaseOk P lo sz H0 (takeE ts e) ⟨H.next, takeO bo H.objs⟩ ex e' H' W) (hbo : oldIn lo bo H0.objs = true) : BaseOk P lo sz H0 e H ex e' H' W :=
  fun ρ0 w0 ρ w a hi hlo hn hev hs Q hQ => h ρ0 w0 ρ w a hi hlo (hn.less hbo) (fun t v hv => hev t v (getE_take hv)) hs Q hQ
/-- what is told behind: names and blocks by the lists, and how many blocks there are -/
def takeN {R : Type} (ts bo : List Nat) (k : Ex → Env → AH → Option R) : Ex → Env → AH → Option R := fun ex e H => k ex (takeE ts e) ⟨H.next, takeO bo H.objs⟩
theorem base_told {C : Cx} (hC : C.Ok) (hmix : C.P.follows .mixedOrders = true) {n lo sz : Nat} {c : Code} {H0 : AH} {L : Hand} (hL : ∀ a ∈ loopsIn c, LOkB C.P H0 L a) {e : Env} {H : AH} {ts bo : List Nat} {ex : Ex} {e1 : Env} {H1 : AH}
    (h : evTop C n L lo sz c e H (takeN ts bo fun ex e O => some (ex, e, O)) = some (ex, e1, H1)) (hbo : oldIn lo bo H0.objs = true) : BaseOk C.P lo sz H0 e H ex e1 H1 (fun Q a w => c.wp C.P Q a w) := by
  obtain ⟨ex1, e', H', g1, g2⟩ := evTop_base hC hmix c hL _ _ _ _ h
  unfold takeN at g1
  cases g1
  exact BaseOk.less g2 hbo
/-- a loop that is told at once, seen through what it needs -/
def tellS (ts bo : List Nat) (ex : Ex) (e' : Env) (H' : AH) (g : LT) : Hand := fun R lo sz a e H k => g R lo sz a (takeE ts e) ⟨H.next, takeO bo H.objs⟩ ex e' H' (k ex e' H')
theorem tellS_okB {P : Program} {H0 : AH} {ts bo : List Nat} {ex : Ex} {e' : Env} {H' : AH} {a : Code} (hbo : ∀ lo, oldIn lo bo H0.objs = true) : LOkB P H0 (tellS ts bo ex e' H' (tellR P H0)) a := fun R lo sz e H k r h => by
  unfold tellS tellR at h
  split at h
  · rename_i hb; exact ⟨ex, e', H', h, BaseOk.more hb (hbo lo)⟩
  · cases h
end Go.Vm
namespace Go.Vm
open Go.Proofs
set_option linter.unusedVariables false
set_option linter.unusedSectionVars false
set_option linter.unusedSimpArgs false
set_option maxRecDepth 1000000

/-! ### Linear systems: what stands in memory -/
noncomputable def stC (fi : Fi) (ab : KFF) (fn : KF1) : Cx := uC fi [(53, sFF ab), (141, sFB1 fn)] [] []
def fV (n : Nat) : Value := .func (.func n) ⟨[]⟩ ⟨[]⟩
def fieldL : List Value := [fV 53, fV 253, fV 254, fV 141]
def fieldV : Value := .agg ⟨fieldL⟩
def sliceV (b n c : Nat) : Value := .slice (some ⟨b, 0, none⟩) n c
def ptrV (b : Nat) : Value := .pointer (some ⟨b, 0, none⟩)
def intV (n : Nat) : Value := .int .i64 (Int.ofNat n)
/-- f 0 .. f (n-1) -/
def upTo {α : Type} (f : Nat → α) : Nat → Nat → List α
  | _, 0 => []
  | i, n + 1 => f i :: upTo f (i + 1) n
def fl (w : Nat) : Value := .float .f64 w
/-- a row of the system: n numbers and the right side -/
def rowV (W : Nat → Nat → Nat) (n r : Nat) : AObj := .cells (upTo (fun j => fl (W r j)) 0 (n + 1)) 0
/-- where the parts of the system lie: b: the base, pb ob: pivots and odds, q: which block holds row i -/
def sysL (b n c pb ob : Nat) : List Value := [sliceV (b + 3) n n, sliceV (b + 4) n n, bif Nat.beq c 0 then nilS else sliceV pb c c, bif Nat.beq c 0 then nilS else sliceV ob c c]
def stO (b n c pb ob : Nat) (q : Nat → Nat) (rs : List Value) (fi : Nat → Int) (W : Nat → Nat → Nat) (ps : Nat → Nat) (os : Nat → Bool) : Objs :=
  [(b, .cells fieldL 0), (b + 1, .cells rs 0), (b + 2, .cells (sysL b n c pb ob) 0),
    (b + 3, .cells (upTo (fun i => sliceV (b + 7 + q i) (n + 1) (n + 1)) 0 n) 1), (b + 4, .cells (upTo (fun i => .int .i64 (fi i)) 0 n) 1)] ++
  (bif Nat.beq c 0 then [] else [(pb, .cells (upTo (fun i => fl (ps i)) 0 c) 1), (ob, .cells (upTo (fun i => .bool (os i)) 0 c) 1)]) ++
  upTo (fun i => (b + 7 + q i, rowV W n i)) 0 n
def stE (b n c : Nat) : Env := [(59, intV c), (58, intV n), (9, intV n), (8, ptrV (b + 2)), (7, .bool false), (6, ptrV (b + 1)), (3, ptrV b)]
noncomputable def stLoop : Code := loopNo (codeOf 252) 1
def nils : List Value := [nilS, nilS, nilS, nilS]
def oldO (b : Nat) (oo : Nat → AObj) : Objs := upTo (fun i => (i, oo i)) 0 b
def upd1 {α : Type} (f : Nat → α) (c : Nat) (x : α) (i : Nat) : α := bif Nat.beq i c then x else f i
def updW (W : Nat → Nat → Nat) (r j u : Nat) : Nat → Nat → Nat := fun r' j' => bif Nat.beq r' r then (bif Nat.beq j' j then u else W r' j') else W r' j'
/-- c and p in one another's place -/
def tr (c p i : Nat) : Nat := bif Nat.beq i c then p else bif Nat.beq i p then c else i
section
variable {R : Type}
def colK (c r f : Nat) : Nat → Nat → (Nat → Nat → Nat) → ((Nat → Nat → Nat) → Option R) → Option R
  | 0, _, W, k => k W
  | m + 1, j, W, k => bindF (fbF .mul f (W c j)) fun t => bindF (fbF .sub (W r j) t) fun u => colK c r f m (j + 1) (updW W r j u) k
end
def stTs : List Nat := [59, 58, 9, 8, 7, 6, 3]
noncomputable def rowLoop : Code := loopNo stLoop 1
noncomputable def pvLoop : Code := loopNo stLoop 0
def pvE (b n c i p : Nat) : Env := [(15, intV i), (14, intV p), (13, intV c)] ++ stE b n c
def pvTs : List Nat := [15, 14, 13] ++ stTs
def rowE (b n c r x : Nat) : Env := [(168, intV r), (167, intV (n - (c + 1)))] ++ (bif Nat.beq (c + 1) n then [] else [(166, .slice (some ⟨b + 3, c + 1, none⟩) (n - (c + 1)) (n - (c + 1)))]) ++ [(16, fl x), (13, intV c)] ++ stE b n c
def rowTs (n c : Nat) : List Nat := [168, 167] ++ (bif Nat.beq (c + 1) n then [] else [166]) ++ [16, 13] ++ stTs
def ownB (b n c pb ob : Nat) (q : Nat → Nat) : List Nat := [b, b + 1, b + 2, b + 3, b + 4] ++ (bif Nat.beq c 0 then [] else [pb, ob]) ++ upTo (fun i => b + 7 + q i) 0 n
def allB (b n c : Nat) : List Nat := ownB b n c (b + 5) (b + 6) (fun i => i) ++ upTo (fun i => i) 0 b
def stH (b n c : Nat) (fi : Nat → Int) (W : Nat → Nat → Nat) (ps : Nat → Nat) (os : Nat → Bool) (oo : Nat → AObj) : AH := ⟨b + 7 + n, stO b n c (b + 5) (b + 6) (fun i => i) nils fi W ps os ++ oldO b oo⟩
/-- behind the swap, by the names that are there then -/
def midHp (b n c p : Nat) (fi : Nat → Int) (W : Nat → Nat → Nat) (ps : Nat → Nat) (os : Nat → Bool) (oo : Nat → AObj) : AH :=
  ⟨(bif Nat.beq (c + 1) n then b + n + 12 else b + n + 11), stO b n (c + 1) (b + n + 8) (b + n + 10) (tr c p) nils (fun i => fi (tr c p i)) (fun i => W (tr c p i)) (upd1 ps c (W p c)) (upd1 os c (not (Nat.beq p c))) ++ oldO b oo⟩
def midBo (b n c p : Nat) : List Nat := ownB b n (c + 1) (b + n + 8) (b + n + 10) (tr c p) ++ upTo (fun i => i) 0 b
/-- what is told behind a round: all; or, where it leaves, the answer -/
def takeM {R : Type} (b n c : Nat) (K : Ex → Env → AH → Option R) : Ex → Env → AH → Option R := fun ex e H => match ex with
  | .ret => takeN [7, 6] ([b + 1] ++ upTo (fun i => i) 0 b) K .ret e H
  | ex => takeN stTs (allB b n (c + 1)) K ex e H
section
variable {R : Type}
/-- the equations, by numbers -/
def EqPv (n c i p : Nat) : Prop := ∀ (R : Type) (ab : KFF) (fn : KF1) (oo : Nat → AObj) (fi : Nat → Int) (ps : Nat → Nat) (os : Nat → Bool) (W : Nat → Nat → Nat) (K : Ex → Env → AH → Option R),
  evTop (stC fiReal ab fn) 100 noL (n + 2) 209 pvLoop (pvE (n + 2) n c i p) (stH (n + 2) n c fi W ps os oo) (takeN pvTs (allB (n + 2) n c) K) =
    ab R (W i c) fun x => ab R (W p c) fun y => bif ordW x y == some .gt then K .normal (pvE (n + 2) n c (i + 1) i) (stH (n + 2) n c fi W ps os oo) else K .normal (pvE (n + 2) n c (i + 1) p) (stH (n + 2) n c fi W ps os oo)
def EqPx (n c p : Nat) : Prop := ∀ (R : Type) (ab : KFF) (fn : KF1) (oo : Nat → AObj) (fi : Nat → Int) (ps : Nat → Nat) (os : Nat → Bool) (W : Nat → Nat → Nat) (K : Ex → Env → AH → Option R),
  evTop (stC fiReal ab fn) 100 noL (n + 2) 209 pvLoop (pvE (n + 2) n c n p) (stH (n + 2) n c fi W ps os oo) (takeN pvTs (allB (n + 2) n c) K) = K (.exit 4) (pvE (n + 2) n c n p) (stH (n + 2) n c fi W ps os oo)
def EqRow (n c r : Nat) : Prop := ∀ (R : Type) (ab : KFF) (fn : KF1) (oo : Nat → AObj) (fi : Nat → Int) (ps : Nat → Nat) (os : Nat → Bool) (W : Nat → Nat → Nat) (x : Nat) (K : Ex → Env → AH → Option R),
  evTop (stC fiReal ab fn) 100 (rollL (stC fiReal ab fn) 100) (n + 2) 209 rowLoop (rowE (n + 2) n c r x) (stH (n + 2) n (c + 1) fi W ps os oo) (takeN (rowTs n c) (allB (n + 2) n (c + 1)) K) =
    bindF (fbF .quo (W (c + 1 + r) c) x) fun f => colK c (c + 1 + r) f (n - c) (c + 1) W fun W' => K .normal (rowE (n + 2) n c (r + 1) x) (stH (n + 2) n (c + 1) fi W' ps os oo)
def EqRx (n c : Nat) : Prop := ∀ (R : Type) (ab : KFF) (fn : KF1) (oo : Nat → AObj) (fi : Nat → Int) (ps : Nat → Nat) (os : Nat → Bool) (W : Nat → Nat → Nat) (x : Nat) (K : Ex → Env → AH → Option R),
  evTop (stC fiReal ab fn) 100 (rollL (stC fiReal ab fn) 100) (n + 2) 209 rowLoop (rowE (n + 2) n c (n - (c + 1)) x) (stH (n + 2) n (c + 1) fi W ps os oo) (takeN (rowTs n c) (allB (n + 2) n (c + 1)) K) = K (.exit 6) (rowE (n + 2) n c (n - (c + 1)) x) (stH (n + 2) n (c + 1) fi W ps os oo)
def EqMid (n c p : Nat) : Prop := ∀ (R : Type) (ab : KFF) (fn : KF1) (oo : Nat → AObj) (fi fi' : Nat → Int) (ps ps' : Nat → Nat) (os os' : Nat → Bool) (W W' : Nat → Nat → Nat) (g1 g2 : LT) (K : Ex → Env → AH → Option R),
  evTop (stC fiReal ab fn) 100 (orL 166 (tellS (rowTs n c) (midBo (n + 2) n c p) (.exit 6) (rowE (n + 2) n c (n - (c + 1)) (W p c)) (stH (n + 2) n (c + 1) fi' W' ps' os' oo) g2)
      (tellS pvTs (allB (n + 2) n c) (.exit 4) (pvE (n + 2) n c n p) (stH (n + 2) n c fi W ps os oo) g1)) (n + 2) 209 stLoop (stE (n + 2) n c) (stH (n + 2) n c fi W ps os oo) (takeM (n + 2) n c K) =
    (g1 R (n + 2) 209 pvLoop (pvE (n + 2) n c (c + 1) c) (stH (n + 2) n c fi W ps os oo) (.exit 4) (pvE (n + 2) n c n p) (stH (n + 2) n c fi W ps os oo) <|
      bif ordW (W p c) 0 == some .eq then K .ret [(7, .bool false), (6, ptrV (n + 3))] ⟨n + 2 + n + 11, (n + 3, .cells (sysL (n + 2) n (c + 1) (n + 2 + n + 8) (n + 2 + n + 10)) 0) :: oldO (n + 2) oo⟩
      else fn R (W p c) <| g2 R (n + 2) 209 rowLoop (rowE (n + 2) n c 0 (W p c)) (midHp (n + 2) n c p fi W ps os oo) (.exit 6) (rowE (n + 2) n c (n - (c + 1)) (W p c)) (stH (n + 2) n (c + 1) fi' W' ps' os' oo) <|
        K .normal (stE (n + 2) n (c + 1)) (stH (n + 2) n (c + 1) fi' W' ps' os' oo))
def renB (n c p : Nat) : List Nat := [n + 2, n + 3, n + 4, n + 5, n + 6, n + 2 + n + 8, n + 2 + n + 10] ++ upTo (fun i => n + 2 + 7 + tr c p i) 0 n
def EqRen (n c p : Nat) : Prop := ∀ (oo : Nat → AObj) (fi : Nat → Int) (ps : Nat → Nat) (os : Nat → Bool) (W : Nat → Nat → Nat) (x : Nat),
  renE (placeW (n + 2) (renB n c p)) (takeE (rowTs n c) (rowE (n + 2) n c 0 x)) = some (rowE (n + 2) n c 0 x) ∧
  renOs (placeW (n + 2) (renB n c p)) (takeO (ownB (n + 2) n (c + 1) (n + 2 + n + 8) (n + 2 + n + 10) (tr c p)) (midHp (n + 2) n c p fi W ps os oo).objs) =
    some (stO (n + 2) n (c + 1) (n + 2 + 5) (n + 2 + 6) (fun i => i) nils (fun i => fi (tr c p i)) (fun i => W (tr c p i)) (upd1 ps c (W p c)) (upd1 os c (not (Nat.beq p c))))
def EqEnd (n : Nat) : Prop := ∀ (R : Type) (ab : KFF) (fn : KF1) (oo : Nat → AObj) (fi : Nat → Int) (ps : Nat → Nat) (os : Nat → Bool) (W : Nat → Nat → Nat) (K : Ex → Env → AH → Option R),
  evTop (stC fiReal ab fn) 100 noL (n + 2) 209 stLoop (stE (n + 2) n n) (stH (n + 2) n n fi W ps os oo) (takeN stTs (allB (n + 2) n n) K) = K (.exit 2) (stE (n + 2) n n) (stH (n + 2) n n fi W ps os oo)
end
theorem lt_split {P : Nat → Prop} {n : Nat} (hs : ∀ i, i < n → P i) (h : P n) : ∀ i, i < n + 1 → P i := fun i hi => by
  rcases Nat.lt_or_ge i n with g | g
  · exact hs i g
  · rw [show i = n by omega]; exact h
theorem lt_none {P : Nat → Prop} : ∀ i, i < 0 → P i := fun i hi => absurd hi (Nat.not_lt_zero i)
/-! ### ahead of the rounds, and behind them -/
def W0f (n : Nat) (A : Nat → Nat → Nat) (bv : Nat → Nat) : Nat → Nat → Nat := fun r j => bif Nat.beq j n then bv r else A r j
/-- what is handed in: the list of rows, the rows, the right side -/
def ooS (n : Nat) (A : Nat → Nat → Nat) (bv : Nat → Nat) (sA sr sb : Nat) (i : Nat) : AObj :=
  bif Nat.beq i 0 then .cells (upTo (fun i => sliceV (1 + i) n n) 0 n) sA else bif Nat.beq i (n + 1) then .cells (upTo (fun r => fl (bv r)) 0 n) sb else .cells (upTo (fun j => fl (A (i - 1) j)) 0 n) sr
def inO (n : Nat) (A : Nat → Nat → Nat) (bv : Nat → Nat) (sA sr sb : Nat) : AH := ⟨n + 2, oldO (n + 2) (ooS n A bv sA sr sb)⟩
def preH (b n : Nat) (W : Nat → Nat → Nat) (oo : Nat → AObj) : AH :=
  ⟨b + 5 * n + 3, [(b, .cells fieldL 0), (b + 1, .cells nils 0), (b + 2, .cells [sliceV (b + 5 * n) n n, sliceV (b + 5 * n + 2) n n, nilS, nilS] 0), (b + 5 * n, .cells (upTo (fun i => sliceV (b + 3 + 5 * i) (n + 1) (n + 1)) 0 n) 1), (b + 5 * n + 2, .cells (upTo intV 0 n) 1)] ++
    upTo (fun i => (b + 3 + 5 * i, rowV W n i)) 0 n ++ oldO b oo⟩
def preOwn (b n : Nat) : List Nat := [b, b + 1, b + 2, b + 5 * n, b + 5 * n + 2] ++ upTo (fun i => b + 3 + 5 * i) 0 n
def preBo (b n : Nat) : List Nat := preOwn b n ++ upTo (fun i => i) 0 b
def preRen (b n : Nat) : List Nat := [b, b + 1, b + 2, b + 5 * n, b + 5 * n + 2, b + 4, b + 5] ++ upTo (fun i => b + 3 + 5 * i) 0 n
def stArgs (n ca cb : Nat) : List Value := [fieldV, sliceV 0 n ca, sliceV (n + 1) n cb]
def EqPb (n : Nat) : Prop := ∀ (R : Type) (ab : KFF) (fn : KF1) (A : Nat → Nat → Nat) (bv : Nat → Nat) (ca cb sA sr sb : Nat) (g : LT) (H' : AH) (K : Ex → Env → AH → Option R),
  evTop (stC fiReal ab fn) 100 (orL 58 (tellS stTs (preBo (n + 2) n) .ret [(7, .bool false), (6, ptrV (n + 3))] H' g) (rollL (stC fiReal ab fn) 100)) (n + 2) 209 (codeOf 252) (enumE 0 (stArgs n ca cb)) (inO n A bv sA sr sb) K =
    g R (n + 2) 209 stLoop (stE (n + 2) n 0) (preH (n + 2) n (W0f n A bv) (ooS n A bv sA sr sb)) .ret [(7, .bool false), (6, ptrV (n + 3))] H' (K .ret [(7, .bool false), (6, ptrV (n + 3))] H')
/-- behind the last round -/
def endO (b n : Nat) (W : Nat → Nat → Nat) (oo : Nat → AObj) : Objs := [(b + 1, .cells (sysL b n n (b + 5) (b + 6)) 0), (b + 3, .cells (upTo (fun i => sliceV (b + 7 + i) (n + 1) (n + 1)) 0 n) 1)] ++ upTo (fun i => (b + 7 + i, rowV W n i)) 0 n ++ oldO b oo
def endBo (b n : Nat) : List Nat := [b + 1, b + 3] ++ upTo (fun i => b + 7 + i) 0 n ++ upTo (fun i => i) 0 b
def EqPf (n : Nat) : Prop := ∀ (R : Type) (ab : KFF) (fn : KF1) (A : Nat → Nat → Nat) (bv : Nat → Nat) (ca cb sA sr sb : Nat) (g : LT) (fi : Nat → Int) (W : Nat → Nat → Nat) (ps : Nat → Nat) (os : Nat → Bool) (K : Ex → Env → AH → Option R),
  evTop (stC fiReal ab fn) 100 (orL 58 (tellS stTs (preBo (n + 2) n) (.exit 2) (stE (n + 2) n n) (stH (n + 2) n n fi W ps os (ooS n A bv sA sr sb)) g) (rollL (stC fiReal ab fn) 100)) (n + 2) 209 (codeOf 252) (enumE 0 (stArgs n ca cb)) (inO n A bv sA sr sb) (takeN [7, 6] (endBo (n + 2) n) K) =
    g R (n + 2) 209 stLoop (stE (n + 2) n 0) (preH (n + 2) n (W0f n A bv) (ooS n A bv sA sr sb)) (.exit 2) (stE (n + 2) n n) (stH (n + 2) n n fi W ps os (ooS n A bv sA sr sb)) (K .ret [(7, .bool true), (6, ptrV (n + 3))] ⟨n + 2 + 7 + n, endO (n + 2) n W (ooS n A bv sA sr sb)⟩)
def EqPr (n : Nat) : Prop := ∀ (oo : Nat → AObj) (W : Nat → Nat → Nat),
  renE (placeW (n + 2) (preRen (n + 2) n)) (takeE stTs (stE (n + 2) n 0)) = some (stE (n + 2) n 0) ∧
  renOs (placeW (n + 2) (preRen (n + 2) n)) (takeO (preOwn (n + 2) n) (preH (n + 2) n W oo).objs) = some (stO (n + 2) n 0 (n + 2 + 5) (n + 2 + 6) (fun i => i) nils (fun i => i) W (fun _ => 0) (fun _ => false))
structure Eqp (n : Nat) : Prop where
  pb : EqPb n
  pf : EqPf n
  pr : EqPr n
structure Eqs (n : Nat) : Prop where
  pv : ∀ c, c < n → ∀ k, k < n - (c + 1) → ∀ j, j < k + 1 → EqPv n c (c + 1 + k) (c + j)
  px : ∀ c, c < n → ∀ j, j < n - c → EqPx n c (c + j)
  row : ∀ c, c < n → ∀ r, r < n - (c + 1) → EqRow n c r
  rx : ∀ c, c < n → EqRx n c
  mid : ∀ c, c < n → ∀ j, j < n - c → EqMid n c (c + j)
  ren : ∀ c, c < n → ∀ j, j < n - c → EqRen n c (c + j)
  fin : EqEnd n
end Go.Vm
namespace Go.Vm
open Go.Proofs
set_option linter.unusedVariables false
set_option linter.unusedSectionVars false
set_option linter.unusedSimpArgs false
set_option maxRecDepth 1000000

/-! ### flow.Speed of so many elements -/
noncomputable def spC (fi : Fi) (sp : KSpV) (pl : KCI) (add : KCCC) (fn : KCB) (g : HT) : Cx := uC fi [(217, sSpV sp), (216, sCI pl), (84, sCCC add), (93, sCB fn)] [(107, saysV (.int .i64 0) g)] []
def elsV (f : Nat → El) : Nat → Nat → List Value
  | _, 0 => []
  | i, m + 1 => .int .u8 (f i).kind :: .complex .f64 (f i).a1 (f i).a2 :: .complex .f64 (f i).s1 (f i).s2 :: .float .f64 (f i).p :: elsV f (i + 1) m
section
variable {R : Type}
def foldK (add : KCCC) : Nat → Nat → List (Nat × Nat) → (Nat → Nat → Option R) → Option R
  | a, b, [], k => k a b
  | a, b, (c, d) :: r, k => add R a b c d fun x y => foldK add x y r k
def sumKK (add : KCCC) : List (Nat × Nat) → (Nat → Nat → Option R) → Option R
  | [], k => k 0 0
  | (a, b) :: r, k => foldK add a b r k
def spdR (sp : KSpV) (add : KCCC) (fn : KCB) (f : Nat → El) (z1 z2 : Nat) (k : Nat → Nat → Int → Option R) : Nat → Nat → List (Nat × Nat) → Option R
  | 0, _, l => sumKK add l.reverse fun x y => fn R x y fun t => bif t then k x y 0 else k 0 0 6
  | m + 1, i, l => sp R (f i).kind (f i).a1 (f i).a2 (f i).s1 (f i).s2 (f i).p z1 z2 fun a b e => bif e != 0 then k 0 0 e else spdR sp add fn f z1 z2 k m (i + 1) ((a, b) :: l)
end
def spE (x y : Nat) (e : Int) : Env := [(4, .complex .f64 x y), (5, .int .i64 e)]
def EqSp (m : Nat) : Prop := ∀ (R : Type) (sp : KSpV) (pl : KCI) (add : KCCC) (fn : KCB) (g : HT) (f : Nat → El) (c sz z1 z2 : Nat) (K : Ex → Env → Objs → Option R),
  evTop (spC fiReal sp pl add fn g) 100 (rollL (spC fiReal sp pl add fn g) 100) 1 19 (codeOf 52) (enumE 0 [.agg ⟨[sliceV 0 m c]⟩, .complex .f64 z1 z2]) ⟨1, [(0, .cells (elsV f 0 m) sz)]⟩ (takeC [4, 5] [] K) =
    g R [.agg ⟨[sliceV 0 m c]⟩] ⟨3, [(2, .cells [.int .u8 0, .complex .f64 0 0, .complex .f64 0 0, .float .f64 0, sliceV 0 m c, nilS] 0), (1, .cells [sliceV 0 m c] 0), (0, .cells (elsV f 0 m) sz)]⟩ (pl R z1 z2 fun e => bif e != 0 then K .ret (spE 0 0 e) [] else spdR sp add fn f z1 z2 (fun x y e => K .ret (spE x y e) []) m 0 [])
def EqS0 : Prop := ∀ (R : Type) (sp : KSpV) (pl : KCI) (add : KCCC) (fn : KCB) (g : HT) (f : Nat → El) (z1 z2 : Nat) (K : Ex → Env → Objs → Option R),
  evTop (spC fiReal sp pl add fn g) 100 (rollL (spC fiReal sp pl add fn g) 100) 0 19 (codeOf 52) (enumE 0 [.agg ⟨[nilS]⟩, .complex .f64 z1 z2]) ⟨0, []⟩ (takeC [4, 5] [] K) =
    g R [.agg ⟨[nilS]⟩] ⟨2, [(1, .cells [.int .u8 0, .complex .f64 0 0, .complex .f64 0 0, .float .f64 0, nilS, nilS] 0), (0, .cells [nilS] 0)]⟩ (pl R z1 z2 fun e => bif e != 0 then K .ret (spE 0 0 e) [] else spdR sp add fn f z1 z2 (fun x y e => K .ret (spE x y e) []) 0 0 [])
theorem sp_1 : EqSp 1 := by intro R sp pl add fn g f c sz z1 z2 K; kernel_rfl
theorem sp_2 : EqSp 2 := by intro R sp pl add fn g f c sz z1 z2 K; kernel_rfl
theorem sp_3 : EqSp 3 := by intro R sp pl add fn g f c sz z1 z2 K; kernel_rfl
theorem sp_4 : EqSp 4 := by intro R sp pl add fn g f c sz z1 z2 K; kernel_rfl
theorem sp_nil : EqS0 := by intro R sp pl add fn g f z1 z2 K; kernel_rfl
end Go.Vm
namespace Go.Vm
open Go.Proofs
set_option linter.unusedVariables false
set_option linter.unusedSimpArgs false
set_option maxRecDepth 1000000

/-! ### panels' pieces -/
structure Pn where
  f1 : Nat
  f2 : Nat
  t1 : Nat
  t2 : Nat
  s : Nat
structure Un where
  u1 : Nat
  u2 : Nat
  m1 : Nat
  m2 : Nat
  l : Nat
abbrev KPo1 := ∀ R : Type, Nat → Nat → Nat → Nat → Nat → (Nat → Nat → Nat → Nat → Nat → Option R) → Option R
/-- a panel told to be one -/
def sPo1 (g : KPo1) : Sum := fun R args k => match args with
  | [.agg ⟨[.complex .f64 f1 f2, .complex .f64 t1 t2, .float .f64 s]⟩] => g R f1 f2 t1 t2 s fun u1 u2 m1 m2 l => k (.tuple ⟨[pieceV f1 f2 t1 t2 s u1 u2 m1 m2 l, .int .i64 0]⟩)
  | _ => none
abbrev KPo2 := ∀ R : Type, Nat → Nat → Nat → Nat → Nat → Option R → (Nat → Nat → Nat → Nat → Nat → Option R) → Option R
/-- .. or too short -/
def sPo2 (g : KPo2) : Sum := fun R args k => match args with
  | [.agg ⟨[.complex .f64 f1 f2, .complex .f64 t1 t2, .float .f64 s]⟩] => g R f1 f2 t1 t2 s (k (.tuple ⟨[pieceV 0 0 0 0 0 0 0 0 0 0, .int .i64 250]⟩)) fun u1 u2 m1 m2 l => k (.tuple ⟨[pieceV f1 f2 t1 t2 s u1 u2 m1 m2 l, .int .i64 0]⟩)
  | _ => none
def panC (p : Nat → Pn) : Nat → Nat → List Value
  | _, 0 => []
  | i, m + 1 => .complex .f64 (p i).f1 (p i).f2 :: .complex .f64 (p i).t1 (p i).t2 :: fl (p i).s :: panC p (i + 1) m
def pieC (p : Nat → Pn) (u : Nat → Un) : Nat → Nat → List Value
  | _, 0 => []
  | i, m + 1 => .complex .f64 (p i).f1 (p i).f2 :: .complex .f64 (p i).t1 (p i).t2 :: fl (p i).s :: .complex .f64 (u i).u1 (u i).u2 :: .complex .f64 (u i).m1 (u i).m2 :: fl (u i).l :: pieC p u (i + 1) m
def updU (u : Nat → Un) (i : Nat) (x : Un) (j : Nat) : Un := match Nat.beq j i with
  | true => x
  | false => u j
noncomputable def alC (of : KPo1) : Cx := uC fiReal [(136, sPo1 of)] [] []
def allK {R : Type} (of : KPo1) (p : Nat → Pn) : Nat → Nat → (Nat → Un) → ((Nat → Un) → Option R) → Option R
  | 0, _, u, k => k u
  | m + 1, i, u, k => of R (p i).f1 (p i).f2 (p i).t1 (p i).t2 (p i).s fun u1 u2 m1 m2 l => allK of p m (i + 1) (updU u i ⟨u1, u2, m1, m2, l⟩) k
def EqAl (n : Nat) : Prop := ∀ (R : Type) (of : KPo1) (p : Nat → Pn) (c sz : Nat) (K : Ex → Env → AH → Option R),
  evTop (alC of) 100 (rollL (alC of) 100) 1 41 (codeOf 148) (enumE 0 [sliceV 0 n c]) ⟨1, [(0, .cells (panC p 0 n) sz)]⟩ (takeN [2, 3] [1, 0] K) =
    allK of p n 0 (fun _ => ⟨0, 0, 0, 0, 0⟩) fun u => K .ret [(2, sliceV 1 n n), (3, .int .i64 0)] ⟨2 + 2 * n, [(1, .cells (pieC p u 0 n) 0), (0, .cells (panC p 0 n) sz)]⟩
theorem al_3 : EqAl 3 := by intro R of p c sz K; kernel_rfl
end Go.Vm
namespace Go.Vm
open Go.Proofs
set_option linter.unusedVariables false
set_option linter.unusedSimpArgs false
set_option maxRecDepth 1000000

/-! ### row: what comes of all pieces at a middle -/
abbrev KSd2 := ∀ R : Type, List Value → AObj → Nat → Nat → (Nat → Nat → Int → Option R) → Option R
def sSd2 (b : Nat) (g : KSd2) : HSum := fun R args H k => match args, takeO [b] H.objs with
  | [f, .complex .f64 x y], [(_, o)] => g R [f] o x y fun x y e => k (.tuple ⟨[.complex .f64 x y, .int .i64 e]⟩)
  | _, _ => none
noncomputable def rwC (pa : KPat) (sd : KSd2) (cj ti : KCC) (sc : KCFC) : Cx := uC fiReal [(147, sPat pa), (124, sCC cj), (40, sCC ti), (39, sCFC sc)] [(52, sSd2 1 sd)] []
/-- a flow: its elements lie in block b, or there are none -/
def flV (b : Nat) (t : Bool) (m c : Nat) : Value := .agg ⟨[match t with
  | true => sliceV b m c
  | false => nilS]⟩
def cxL (v : Nat → Nat × Nat) : Nat → Nat → List Value
  | _, 0 => []
  | i, m + 1 => .complex .f64 (v i).1 (v i).2 :: cxL v (i + 1) m
def updP (v : Nat → Nat × Nat) (i : Nat) (x : Nat × Nat) (j : Nat) : Nat × Nat := match Nat.beq j i with
  | true => x
  | false => v j
def rowK {R : Type} (pa : KPat) (sd : KSd2) (cj ti : KCC) (sc : KCFC) (p : Nat → Pn) (u : Nat → Un) (i : Nat) (fv : Value) (o : AObj) (er : (Nat → Nat × Nat) → Int → Option R) (ok : (Nat → Nat × Nat) → Nat → Nat → Int → Option R) : Nat → Nat → (Nat → Nat × Nat) → Option R
  | 0, _, v => sd R [fv] o (u i).m1 (u i).m2 fun x y e => ok v x y e
  | m + 1, k, v => match Nat.beq k i with
    | true => cj R (u k).u1 (u k).u2 fun a b => ti R a b fun a b => sc R a b 4602678819172646912 fun a b => rowK pa sd cj ti sc p u i fv o er ok m (k + 1) (updP v k (a, b))
    | false => pa R (p k).f1 (p k).f2 (u k).u1 (u k).u2 (u k).l (u i).m1 (u i).m2 fun a b e => bif e != 0 then er v e else rowK pa sd cj ti sc p u i fv o er ok m (k + 1) (updP v k (a, b))
def EqRw (n i : Nat) : Prop := ∀ (R : Type) (pa : KPat) (sd : KSd2) (cj ti : KCC) (sc : KCFC) (p : Nat → Pn) (u : Nat → Un) (t : Bool) (m c sz : Nat) (o : AObj) (K : Ex → Env → Objs → Option R),
  evTop (rwC pa sd cj ti sc) 100 (rollL (rwC pa sd cj ti sc) 100) 2 68 (codeOf 138) (enumE 0 [sliceV 0 n n, flV 1 t m c, intV i]) ⟨2, [(0, .cells (pieC p u 0 n) sz), (1, o)]⟩ (takeC [6, 7, 8] [3, 0, 1] K) =
    rowK pa sd cj ti sc p u i (flV 1 t m c) o (fun v e => K .ret [(6, nilS), (7, .complex .f64 0 0), (8, .int .i64 e)] [(3, .cells (cxL v 0 n) 0), (0, .cells (pieC p u 0 n) sz), (1, o)])
      (fun v x y e => K .ret [(6, sliceV 3 n n), (7, .complex .f64 x y), (8, .int .i64 e)] [(3, .cells (cxL v 0 n) 0), (0, .cells (pieC p u 0 n) sz), (1, o)]) n 0 (fun _ => (0, 0))
end Go.Vm
namespace Go.Vm
set_option linter.unusedVariables false
set_option linter.unusedSimpArgs false

/-! ### A call that needs but some blocks, in a greater memory -/
theorem MemCall.sup {P : Program} {f : FuncId} {args : List Value} {H : AH} {O : Objs} {v : Value} {N : Nat} {A : Objs} (h : MemCall P f args ⟨H.next, O⟩ v ⟨N, A ++ O⟩) (hO : ∀ x, x ∈ O → x ∈ H.objs) (hA : ∀ k o, (k, o) ∈ A → H.next ≤ k) : MemCall P f args H v ⟨N, A ++ H.objs⟩ := by
  intro lo ρ w args' hi hlo hr
  refine (h H.next ρ w args' (hi.sub hO) (Nat.le_refl _) hr).mono ?_
  rintro e w' ⟨ρ', v', rfl, g, hn⟩
  have keep : ∀ b, b < w.heap.size → w'.heap[b]? = w.heap[b]? := fun b hb => hn.keep b hb fun k o s hk hm => absurd (hi.wf k o (hO _ hm)) (by omega)
  have old : ∀ k s, ρ k = some s → ρ' k = some s := fun k s hk => by rw [hn.same k (hi.lt hk)]; exact hk
  have own : ∀ k o s, (k, o) ∈ A → ρ' k = some s → w.heap.size ≤ s.b := fun k o s hm he => by
    rcases hn.own k o s (hA k o hm) (List.mem_append_left _ hm) he with q | ⟨k', o', s', g1, g2, _⟩
    · exact q
    · exact absurd (hi.wf k' o' (hO _ g2)) (by omega)
  have hN : H.next ≤ N := hn.nx
  refine ⟨ρ', v', rfl, g, ?_⟩
  exact
    { inv := ⟨hn.inv.dom, fun k o hm => by
          rcases List.mem_append.1 hm with hm | hm
          · exact hn.inv.wf k o (List.mem_append_left _ hm)
          · have := hi.wf k o hm; show k < N; omega,
        fun k o o' h1 h2 => by
          rcases List.mem_append.1 h1 with h1 | h1 <;> rcases List.mem_append.1 h2 with h2 | h2
          · exact hn.inv.one k o o' (List.mem_append_left _ h1) (List.mem_append_left _ h2)
          · have := hA k o h1; have := hi.wf k o' h2; omega
          · have := hA k o' h2; have := hi.wf k o h1; omega
          · exact hi.one k o o' h1 h2,
        ⟨fun k o hm => by
          rcases List.mem_append.1 hm with hm | hm
          · exact hn.inv.rel.obj k o (List.mem_append_left _ hm)
          · obtain ⟨s, e1, e2⟩ := hi.rel.obj k o hm
            exact ⟨s, old k s e1, (e2.mono old).heap (keep s.b e2.lt)⟩,
        fun k o k' o' s s' h1 h2 h3 h4 h5 => by
          rcases List.mem_append.1 h1 with h1 | h1 <;> rcases List.mem_append.1 h2 with h2 | h2
          · exact hn.inv.rel.inj k o k' o' s s' (List.mem_append_left _ h1) (List.mem_append_left _ h2) h3 h4 h5
          · have a := own k o s h1 h3
            obtain ⟨s2, e1, e2⟩ := hi.rel.obj k' o' h2
            rw [old k' s2 e1] at h4
            cases h4
            have := e2.lt
            omega
          · have a := own k' o' s' h2 h4
            obtain ⟨s2, e1, e2⟩ := hi.rel.obj k o h1
            rw [old k s2 e1] at h3
            cases h3
            have := e2.lt
            omega
          · obtain ⟨s2, e1, e2⟩ := hi.rel.obj k o h1
            obtain ⟨s3, e3, e4⟩ := hi.rel.obj k' o' h2
            rw [old k s2 e1] at h3
            rw [old k' s3 e3] at h4
            cases h3
            cases h4
            exact hi.rel.inj k o k' o' s s' h1 h2 e1 e3 h5⟩⟩
      same := hn.same
      nx := hn.nx
      size := hn.size
      os := hn.os
      tape := hn.tape
      output := hn.output
      keep := fun b hb _ => keep b hb
      own := fun k o s hk hm he => by
        rcases List.mem_append.1 hm with hm | hm
        · exact .inl (own k o s hm he)
        · obtain ⟨s2, e1, e2⟩ := hi.rel.obj k o hm
          rw [old k s2 e1] at he
          cases he
          exact .inr ⟨k, o, _, hk, hm, e1, rfl⟩
      old := fun k o hk => by
        simp only [List.mem_append]
        constructor
        · rintro (hm | hm)
          · have := hA k o hm; omega
          · exact hm
        · exact fun hm => .inr hm }
end Go.Vm
