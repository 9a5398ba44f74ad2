/- A part of the evaluator and of what is told of floats; no conditions. The code of logarithms and angles computes just what is told of them; no conditions. What stands in the place of hot functions, listed; no conditions. The code of elements' speeds and of sines computes just what is told of them; no conditions. What functions without a body answer; no conditions. What ChartGroup computes is true for each three maps; no conditions. A word times a power of two is rounded once; no conditions. -/
import Derived.Test.YtnbpfafngidimaaGreatVmP1
import Derived.Test.YtnbpfafngidimaaGreatProg
import Derived.Test.YtnbpfafngidimaaGreatVmLP
import Derived.Test.YtnbpfafngidimaaGreatVmKC
namespace Go.Vm
set_option linter.unusedVariables false
set_option linter.unusedSimpArgs false

/-! ### Loops of a function, told one by one -/
def oldIn (lo : Nat) (bo : List Nat) : Objs → Bool
  | [] => true
  | (k, _) :: r => (Nat.ble lo k || bo.contains k) && oldIn lo bo r
theorem oldIn_mem {lo k : Nat} {bo : List Nat} {o : AObj} : ∀ {O : Objs}, oldIn lo bo O = true → (k, o) ∈ O → k < lo → k ∈ bo
  | [], _, h, _ => by simp at h
  | (j, u) :: r, g, h, hk => by
    simp only [oldIn, Bool.and_eq_true, Bool.or_eq_true, Nat.ble_eq, List.contains_iff_mem] at g
    rcases List.mem_cons.1 h with e | h
    · cases e
      rcases g.1 with g | g
      · omega
      · exact g
    · exact oldIn_mem g.2 h hk
theorem look_of_mem {k : Nat} {o : AObj} : ∀ {S : Objs}, (k, o) ∈ S → ∃ o', look k S = some o'
  | [], h => by simp at h
  | (j, u) :: r, h => by
    unfold look
    cases hb : Nat.beq j k with
    | true => exact ⟨u, rfl⟩
    | false =>
      rcases List.mem_cons.1 h with e | h
      · cases e; simp at hb
      · exact look_of_mem h
theorem takeO_of {k : Nat} {o : AObj} {O : Objs} (hl : look k O = some o) : ∀ {bo : List Nat}, k ∈ bo → (k, o) ∈ takeO bo O
  | [], h => by simp at h
  | b :: r, h => by
    unfold takeO
    rcases List.mem_cons.1 h with rfl | h
    · rw [hl]; exact List.mem_cons_self
    · split
      · exact List.mem_cons_of_mem _ (takeO_of hl h)
      · exact takeO_of hl h
/-- names and objects that a loop needs -/
def slimL (ts bo : List Nat) (L : Hand) : Hand := fun R lo sz a e H k => bif oldIn lo bo H.objs then L R lo sz a (takeE ts e) ⟨H.next, takeO bo H.objs⟩ k else none
theorem slimL_ok {P : Program} {ts bo : List Nat} {L : Hand} {a : Code} (h : LOk P L a) : LOk P (slimL ts bo L) a := fun R lo sz e H k r hr => by
  unfold slimL at hr
  cases hb : oldIn lo bo H.objs with
  | false => rw [hb] at hr; cases hr
  | true =>
    rw [hb] at hr
    obtain ⟨ex, e', H', g1, g2⟩ := h R lo sz _ _ k r hr
    refine ⟨ex, e', H', g1, fun {ρ w act} hi hlo he hs Q hQ => ?_⟩
    refine g2 (hi.sub fun x hx => takeO_mem hx) hlo (fun t v hv => he t v (getE_take hv)) hs Q fun ρ' a' w' m1 m2 m3 m4 => hQ ρ' a' w' (m1.sup (fun x hx => takeO_mem hx) fun k o hk hm => ?_) m2 m3 m4
    obtain ⟨o', ho'⟩ := look_of_mem hm
    have := hi.one k o o' hm (look_mem ho')
    subst this
    exact takeO_of ho' (oldIn_mem hb hm hk)
/-- by a name that one of them alone has -/
def orL (t : Nat) (A B : Hand) : Hand := fun R lo sz a e H k => match getE t e with
  | some _ => A R lo sz a e H k
  | none => B R lo sz a e H k
theorem orL_ok {P : Program} {t : Nat} {A B : Hand} {a : Code} (hA : LOk P A a) (hB : LOk P B a) : LOk P (orL t A B) a := fun R lo sz e H k r h => by
  unfold orL at h
  split at h
  · exact hA R lo sz e H k r h
  · exact hB R lo sz e H k r h
theorem noL_ok {P : Program} {a : Code} : LOk P noL a := fun R lo sz e H k r h => by cases h

/-- a loop that is told as a whole -/
noncomputable def told (P : Program) (ex : Ex) (e' : Env) (H' : AH) : Hand := fun R lo sz a e H k =>
  open Classical in if CodeOk P lo sz e H ex e' H' (fun Q act w => Code.wp P (.loop a) Q act w) then k ex e' H' else none
theorem told_ok (P : Program) (ex : Ex) (e' : Env) (H' : AH) (a : Code) : LOk P (told P ex e' H') a := fun R lo sz e H k r h => by
  unfold told at h
  split at h
  · rename_i hc
    exact ⟨ex, e', H', h, hc⟩
  · cases h
theorem told_eq {P : Program} {ex : Ex} {e' : Env} {H' : AH} {lo sz : Nat} {a : Code} {e : Env} {H : AH} (h : CodeOk P lo sz e H ex e' H' (fun Q act w => Code.wp P (.loop a) Q act w)) (R : Type) (k : Ex → Env → AH → Option R) :
    told P ex e' H' R lo sz a e H k = k ex e' H' := by
  unfold told
  exact if_pos @h

/-! ### Functions -/
theorem fun_code {C : Cx} (hC : C.Ok) (hmix : C.P.follows .mixedOrders = true) {n lo sz : Nat} {c : Code} {L : Hand} (hL : ∀ a ∈ loopsIn c, LOk C.P L a) {e0 : Env} {H : AH} {ts bo : List Nat} {ex : Ex} {e' : Env} {O : Objs}
    (h : evTop C n L lo sz c e0 H (takeC ts bo fun ex e O => some (ex, e, O)) = some (ex, e', O)) :
    ∃ H', O = takeO bo H'.objs ∧ CodeOk C.P lo sz e0 H ex e' H' (fun Q a w => c.wp C.P Q a w) := by
  obtain ⟨ex1, e1, H1, g1, g2⟩ := evTop_sound hC hmix c (L := L) (n := n) hL _ _ _ _ h
  unfold takeC at g1
  cases g1
  exact ⟨H1, rfl, CodeOk.env @g2 (fun t v h => h) fun t v h => getE_take h⟩
theorem look_take {k : Nat} {o : AObj} {O : Objs} : ∀ {bo : List Nat}, look k (takeO bo O) = some o → look k O = some o
  | [], h => by cases h
  | b :: r, h => by
    unfold takeO at h
    split at h
    · rename_i o' ho
      unfold look at h
      cases hb : Nat.beq b k with
      | true =>
        rw [hb] at h
        cases h
        have := Nat.eq_of_beq_eq_true hb
        subst this
        exact ho
      | false => rw [hb] at h; exact look_take h
    · exact look_take h
theorem resE_take {P : Program} {e : Env} {bo : List Nat} {n : Nat} {H : AH} : ∀ {l : List ResultVar} {vs : List Value}, resE P e ⟨n, takeO bo H.objs⟩ l = some vs → resE P e H l = some vs
  | [], vs, h => h
  | .tmp t :: r, vs, h => by
    simp only [resE] at h
    obtain ⟨v, h1, h2⟩ := bind_some' h
    obtain ⟨us, h3, h4⟩ := bind_some' h2
    simp only [resE, h1, resE_take h3, Option.bind_some]
    exact h4
  | .cell t ty :: r, vs, h => by
    simp only [resE] at h
    obtain ⟨p, h1, h2⟩ := bind_some' h
    split at h2
    · rename_i ad
      split at h2
      · rename_i cs sz hl
        obtain ⟨v, k1, k2⟩ := loadE_sound h2
        obtain ⟨us, h3, h4⟩ := bind_some' k1
        simp only [resE, h1, Option.bind_some, look_take hl]
        unfold loadE at h2 ⊢
        cases hr : isRowB P ty with
        | true =>
          rw [hr] at h2
          simp only [cond_true] at h2 ⊢
          cases hb : (Nat.ble (ad.off + P.cellsOf ty) cs.length && !Nat.beq (P.cellsOf ty) 0) with
          | false => rw [hb] at h2; cases h2
          | true =>
            rw [hb] at h2
            simp only [cond_true] at h2 ⊢
            obtain ⟨us2, q1, q2⟩ := bind_some' h2
            rw [resE_take q1]
            exact q2
        | false =>
          rw [hr] at h2
          simp only [cond_false] at h2 ⊢
          cases hb : (P.underlying ty).isSome with
          | false => rw [hb] at h2; cases h2
          | true =>
            rw [hb] at h2
            simp only [cond_true] at h2 ⊢
            obtain ⟨v2, q0, h5⟩ := bind_some' h2
            obtain ⟨us2, q1, q2⟩ := bind_some' h5
            rw [q0, Option.bind_some, resE_take q1]
            exact q2
      · cases h2
    · cases h2
/-- A FUNCTION'S CALL, told: its answer names nothing -/
theorem fun_flat {C : Cx} (hC : C.Ok) (hmix : C.P.follows .mixedOrders = true) {n : Nat} {f : FuncId} {fn : Func} {c : Code} (hf : C.P.funcs[f]? = some fn) (hb : fn.body = some c) {L : Hand} (hL : ∀ a ∈ loopsIn c, LOk C.P L a)
    {args : List Value} {H : AH} {ts bo : List Nat} {ex : Ex} {e' : Env} {O : Objs} {vs : List Value} (hl : args.length ≤ fn.ntmps)
    (h : evTop C n L H.next fn.ntmps c (enumE 0 args) H (takeC ts bo fun ex e O => some (ex, e, O)) = some (ex, e', O)) (hex : ex = .normal ∨ ex = .ret) (hr : resE C.P e' ⟨0, O⟩ fn.results.toList = some vs) (hfl : flat (oneOf vs) = true) :
    ∀ ρ w args', Inv ρ H w → VRels ρ args args' → Calls C.P f ⟨args'⟩ w fun e w' => e = .returned (oneOf vs) ∧ RowKit.Below w.heap.size w w' := by
  obtain ⟨H', hO, g⟩ := fun_code hC hmix hL h
  rw [hO] at hr
  exact calls_below hf hb hl @g hex (resE_take hr) hfl
/-- .. its answer names what is new -/
theorem fun_mem {C : Cx} (hC : C.Ok) (hmix : C.P.follows .mixedOrders = true) {n : Nat} {f : FuncId} {fn : Func} {c : Code} (hf : C.P.funcs[f]? = some fn) (hb : fn.body = some c) {L : Hand} (hL : ∀ a ∈ loopsIn c, LOk C.P L a)
    {args : List Value} {H : AH} {ts bo : List Nat} {ex : Ex} {e' : Env} {O : Objs} {vs : List Value} (hl : args.length ≤ fn.ntmps)
    (h : evTop C n L H.next fn.ntmps c (enumE 0 args) H (takeC ts bo fun ex e O => some (ex, e, O)) = some (ex, e', O)) (hex : ex = .normal ∨ ex = .ret) (hr : resE C.P e' ⟨0, O⟩ fn.results.toList = some vs) :
    ∃ H', (∀ x, x ∈ O → x ∈ H'.objs) ∧ ∀ ρ w args', Inv ρ H w → VRels ρ args args' → Calls C.P f ⟨args'⟩ w fun e w' => ∃ ρ' v', e = .returned v' ∧ VRel ρ' (oneOf vs) v' ∧ Next H.next ρ H w ρ' H' w' := by
  obtain ⟨H', hO, g⟩ := fun_code hC hmix hL h
  rw [hO] at hr
  exact ⟨H', fun x hx => takeO_mem (by rw [hO] at hx; exact hx), calls_next hf hb hl @g hex (resE_take hr)⟩

/-! ### Contracts of single calls, wherever their arguments lie -/
def FlatCall (P : Program) (f : FuncId) (args : List Value) (H : AH) (v : Value) : Prop :=
  ∀ ρ w args', Inv ρ H w → VRels ρ args args' → Calls P f ⟨args'⟩ w fun e w' => e = .returned v ∧ RowKit.Below w.heap.size w w'
/-- what a call answers, if it is known -/
noncomputable def toldH (P : Program) (f : FuncId) (val : List Value → AH → Value) : HSum := fun R args H k =>
  letI := Classical.propDecidable
  if FlatCall P f args H (val args H) ∧ flat (val args H) = true then k (val args H) else none
theorem toldH_ok {P : Program} {f : FuncId} {val : List Value → AH → Value} : HSumOk P f (toldH P f val) := fun R args H k r h => by
  unfold toldH at h
  split at h
  · rename_i hc; exact ⟨_, h, hc.2, hc.1⟩
  · cases h
theorem toldH_eq {P : Program} {f : FuncId} {val : List Value → AH → Value} {R : Type} {args : List Value} {H : AH} {v : Value} {k : Value → Option R} (hv : val args H = v) (h : FlatCall P f args H v) (hfl : flat v = true) : toldH P f val R args H k = k v := by
  unfold toldH
  subst hv
  rw [if_pos ⟨h, hfl⟩]
def MemCall (P : Program) (f : FuncId) (args : List Value) (H : AH) (v : Value) (H' : AH) : Prop :=
  ∀ (lo : Nat) (ρ : Map) (w : World) (args' : List Value), Inv ρ H w → lo ≤ H.next → VRels ρ args args' → Calls P f ⟨args'⟩ w fun e w' => ∃ ρ' v', e = .returned v' ∧ VRel ρ' v v' ∧ Next lo ρ H w ρ' H' w'
noncomputable def toldM (P : Program) (f : FuncId) (val : List Value → AH → Value × AH) : MSum := fun R args H k =>
  letI := Classical.propDecidable
  if MemCall P f args H (val args H).1 (val args H).2 then k (val args H).1 (val args H).2 else none
theorem toldM_ok {P : Program} {f : FuncId} {val : List Value → AH → Value × AH} : MSumOk P f (toldM P f val) := fun R args H k r h => by
  unfold toldM at h
  split at h
  · rename_i hc; exact ⟨_, _, h, hc⟩
  · cases h
theorem toldM_eq {P : Program} {f : FuncId} {val : List Value → AH → Value × AH} {R : Type} {args : List Value} {H H' : AH} {v : Value} {k : Value → AH → Option R} (hv : val args H = (v, H')) (h : MemCall P f args H v H') : toldM P f val R args H k = k v H' := by
  unfold toldM
  rw [hv]
  exact if_pos h
theorem FlatCall.sup {P : Program} {f : FuncId} {args : List Value} {H : AH} {O : Objs} {v : Value} (h : FlatCall P f args ⟨H.next, O⟩ v) (hO : ∀ x, x ∈ O → x ∈ H.objs) : FlatCall P f args H v :=
  fun ρ w args' hi ha => h ρ w args' (hi.sub hO) ha
def only (b : Nat) (k : Nat) : Option Nat := bif Nat.beq k 0 then some b else none
theorem only_some {b j k : Nat} (h : only b j = some k) : j = 0 ∧ k = b := by
  unfold only at h
  cases hb : Nat.beq j 0 with
  | true => rw [hb] at h; cases h; exact ⟨Nat.eq_of_beq_eq_true hb, rfl⟩
  | false => rw [hb] at h; cases h
theorem within_only {b : Nat} {cs : List Value} {sz : Nat} {H : AH} (hf : inns 0 cs = true) (hm : (b, .cells cs sz) ∈ H.objs) : Within (only b) ⟨1, [(0, .cells cs sz)]⟩ H where
  obj := fun j o h => by
    simp only [List.mem_singleton, Prod.mk.injEq] at h
    obtain ⟨rfl, rfl⟩ := h
    exact ⟨b, .cells cs sz, rfl, by simp [renO, rens_flat hf], hm⟩
  lt := fun j o h => by
    simp only [List.mem_singleton, Prod.mk.injEq] at h
    show j < 1
    omega
  one := fun j o o' h1 h2 => by
    simp only [List.mem_singleton, Prod.mk.injEq] at h1 h2
    rw [h1.2, h2.2]
  inj := fun j j' k h1 h2 => by rw [(only_some h1).1, (only_some h2).1]
  dom := fun j k h => by rw [(only_some h).1]; exact Nat.zero_lt_one
/-- of one list that names nothing -/
theorem FlatCall.one {P : Program} {f : FuncId} {argsc args : List Value} {H : AH} {b sz : Nat} {cs : List Value} {v : Value} (h : FlatCall P f argsc ⟨1, [(0, .cells cs sz)]⟩ v) (hf : inns 0 cs = true) (hm : (b, .cells cs sz) ∈ H.objs) (ha : renL (only b) argsc = some args) : FlatCall P f args H v :=
  calls_pull (within_only hf hm) ha h
/-- told at once that a call answers this -/
abbrev HT := ∀ R : Type, List Value → AH → Option R → Option R
def saysV (v : Value) (g : HT) : HSum := fun R args H k => g R args H (k v)
noncomputable def saysR (P : Program) (f : FuncId) (v : Value) : HT := fun R args H k =>
  letI := Classical.propDecidable
  if FlatCall P f args H v then k else none
theorem says_ok {P : Program} {f : FuncId} {v : Value} (hv : flat v = true) : HSumOk P f (saysV v (saysR P f v)) := fun R args H k r h => by
  unfold saysV saysR at h
  split at h
  · rename_i hc; exact ⟨v, h, hv, hc⟩
  · cases h
theorem says_eq {P : Program} {f : FuncId} {v : Value} {R : Type} {args : List Value} {H : AH} {k : Option R} (h : FlatCall P f args H v) : saysR P f v R args H k = k := by
  unfold saysR; exact if_pos h
/-- .. the same as a contract of what is left in memory: nothing -/
def saysM (v : Value) (g : HT) : MSum := fun R args H k => g R args H (k v H)
theorem saysM_ok {P : Program} {f : FuncId} {v : Value} (hv : flat v = true) : MSumOk P f (saysM v (saysR P f v)) := fun R args H k r h => by
  unfold saysM saysR at h
  split at h
  · rename_i hc
    refine ⟨v, H, h, fun lo ρ w args' hi hlo ha => (hc ρ w args' hi ha).mono ?_⟩
    rintro e w' ⟨rfl, hb⟩
    exact ⟨ρ, v, rfl, VRel.ofFlat ρ hv, below_next hi hb⟩
  · cases h
/-- a call that leaves one list that names nothing -/
abbrev MT := ∀ R : Type, List Value → AH → (List Value → Option R) → Option R
def leavesV (sz : Nat) (v : Nat → Value) (g : MT) : MSum := fun R args H k => g R args H fun cs => k (v H.next) (H.push (.cells cs sz))
noncomputable def leavesR (P : Program) (f : FuncId) (sz : Nat) (v : Nat → Value) (cs : List Value) : MT := fun R args H k =>
  letI := Classical.propDecidable
  if MemCall P f args H (v H.next) (H.push (.cells cs sz)) then k cs else none
theorem leaves_ok {P : Program} {f : FuncId} {sz : Nat} {v : Nat → Value} {cs : List Value} : MSumOk P f (leavesV sz v (leavesR P f sz v cs)) := fun R args H k r h => by
  unfold leavesV leavesR at h
  split at h
  · rename_i hc; exact ⟨_, _, h, hc⟩
  · cases h
theorem leaves_eq {P : Program} {f : FuncId} {sz : Nat} {v : Nat → Value} {cs : List Value} {R : Type} {args : List Value} {H : AH} {k : List Value → Option R} (h : MemCall P f args H (v H.next) (H.push (.cells cs sz))) : leavesR P f sz v cs R args H k = k cs := by
  unfold leavesR; exact if_pos h
end Go.Vm
namespace Go.Vm
open Go.Proofs
set_option linter.unusedVariables false
set_option maxRecDepth 1000000

noncomputable def codeOf (n : Nat) : Code := match Tryz.prog.funcs[n]? with
  | none => .skip
  | some fn => match fn.body with
    | some c => c
    | none => .skip
noncomputable def loopNo (c : Code) (n : Nat) : Code := match (loopsIn c)[n]? with | some a => a | none => .skip
/- types of one cell, and of more -/
theorem one28 : OneCell Tryz.prog 28 := fun R cs off k => by kernel_rfl
theorem one29 : OneCell Tryz.prog 29 := fun R cs off k => by kernel_rfl
theorem more66 : MoreCells Tryz.prog 66 4 := fun R cs off k => by kernel_rfl
end Go.Vm
namespace Go.Vm
open Go.Proofs
set_option linter.unusedVariables false
set_option maxRecDepth 1000000
theorem z_pi (R : Type) (k : Value → Option R) : evFn (cx Tryz.prog []) 60 165 [] k = k (.tuple ⟨[.float .f64 4614256656552045848, .float .f64 4368955796522032135]⟩) := by kernel_rfl
theorem z_core (R : Type) t (k : Value → Option R) : evFn (cx Tryz.prog [(165, sPi)]) 60 265 [.float .f64 t] k = coreK R t fun x => k (.float .f64 x) := by kernel_rfl
theorem z_odd (R : Type) t (k : Value → Option R) : evFn (cx Tryz.prog []) 60 273 [.float .f64 t] k = oddK R t fun x => k (.float .f64 x) := by kernel_rfl
theorem z_log (fi : Fi) (g0 gp gm : KFB) (pa : KFFI) (odd : KFF) (R : Type) t (k : Value → Option R) : evFn (cxf fi Tryz.prog [(112, sInf3 g0 gp gm), (55, sNever), (113, sInfW2), (200, sFFI pa), (273, sFF odd)] []) 60 238 [.float .f64 t] k =
  logB fi gp pa odd R t fun x => k (.float .f64 x) := by kernel_rfl
theorem z_sign (fi : Fi) (R : Type) t (k : Value → Option R) : evFn (cxf fi Tryz.prog [] []) 60 249 [.float .f64 t] k = signB fi R t fun t => k (.bool t) := by kernel_rfl
theorem z_minus (sg : KFB) (R : Type) t (k : Value → Option R) : evFn (cx Tryz.prog [(249, sFB sg)]) 60 266 [.float .f64 t] k = minusB sg R t fun t => k (.bool t) := by kernel_rfl
theorem z_signed (mi : KFB) (ab : KFF) (R : Type) a b (k : Value → Option R) : evFn (cx Tryz.prog [(266, sFB mi), (53, sFF ab)]) 60 267 [.float .f64 a, .float .f64 b] k = signedB mi ab R a b fun x => k (.float .f64 x) := by kernel_rfl
theorem z_angle (ab : KFF) (g0 gp gm : KFB) (core : KFF) (mi : KFB) (sd : KFFF) (R : Type) a b (k : Value → Option R) :
  evFn (cx Tryz.prog [(53, sFF ab), (112, sInf3 g0 gp gm), (165, sPi), (265, sFF core), (266, sFB mi), (267, sFFF sd), (55, sNever)]) 60 233 [.float .f64 a, .float .f64 b] k = angleB ab gp core mi sd R a b fun x => k (.float .f64 x) := by kernel_rfl
theorem z_powLog (len : KCF) (lg : KFF) (an : KFFF) (R : Type) a b (k : Value → Option R) : evFn (cx Tryz.prog [(38, sCF len), (238, sFF lg), (233, sFFF an)]) 60 189 [.complex .f64 a b] k = powLogB len lg an R a b fun x y => k (.complex .f64 x y) := by kernel_rfl
end Go.Vm
namespace Go.Vm
open Go.Proofs
set_option linter.unusedVariables false

/-! ### What stands in the place of hot functions -/
def checkK : KEI := checkB placeK withinK noughtK wh1
def spSK : ∀ R : Type, Nat → Nat → Nat → Nat → Nat → Nat → (Int → Option R) → (Nat → Nat → Option R) → Option R := spS checkK placeK noughtK FiniteK subK
def spOK : ∀ R : Type, Nat → Nat → Nat → Nat → Nat → Nat → (Int → Option R) → (Nat → Nat → Option R) → Option R := spO checkK placeK noughtK FiniteK subK divK sclK
def spDK : ∀ R : Type, Nat → Nat → Nat → Nat → Nat → Nat → (Int → Option R) → (Nat → Nat → Option R) → Option R := spD checkK placeK noughtK FiniteK subK divK mulK sclK
/-- the hot ones -/
def hot : List (Nat × Sum) := [(199, sEI checkK), (217, sSp spSK spOK spDK), (258, sFF2 stepsK), (243, sCB placeK), (244, sCB noughtK), (245, sWh1), (221, sW2 mulK), (53, sFF absK), (22, sCCC mulK), (84, sCCC addK), (21, sCCC subK), (80, sFFB withinK), (135, sCFB WithinK), (141, sFB finiteK), (93, sCB FiniteK), (179, sCCC divK), (81, sCB noughtK), (86, sCC negK),
  (79, sCB placeK), (23, sCCB LikeK), (87, sFFB likeK), (112, sInf3 isInfK isInfPK isInfMK), (113, sInfW2), (114, sFB isNanK), (275, sFFI normK), (260, sFFI frexpK), (229, sFFI frexpK), (200, sFFI frexpK), (77, sFFF copyK),
  (247, sFIF ldexpK), (201, sFIF ldexpK), (117, sFIF scaleK), (115, sCF greatestK), (116, sCCI scaledK), (119, sCF squareK), (118, sFF sqrtK), (38, sCF lengthK), (39, sCFC sclK),
  (165, sPi), (265, sFF coreK), (273, sFF oddK), (238, sFF logK), (249, sFB signK), (266, sFB minusK), (267, sFFF signedK), (233, sFFF angleK), (189, sCC powLogK)]
def methT (t : TypeId) (s : String) : Option FuncId :=
  bif s == "eddy/element.speed" then
    (bif Nat.beq t 261 then some 301 else bif Nat.beq t 263 then some 304 else bif Nat.beq t 265 then some 308 else bif Nat.beq t 267 then some 311 else bif Nat.beq t 268 then some 314 else none)
  else bif s == "eddy/element.potential" then
    (bif Nat.beq t 261 then some 299 else bif Nat.beq t 263 then some 302 else bif Nat.beq t 265 then some 306 else bif Nat.beq t 267 then some 309 else bif Nat.beq t 268 then some 312 else none)
  else bif s == "eddy/element.slope" then
    (bif Nat.beq t 261 then some 300 else bif Nat.beq t 263 then some 303 else bif Nat.beq t 265 then some 307 else bif Nat.beq t 267 then some 310 else bif Nat.beq t 268 then some 313 else none)
  else none
def wildT (f : FuncId) : Bool := Nat.beq f 142
def nanT (f : FuncId) : Bool := Nat.beq f 53
/-- the same without summaries of its own, for equations -/
def cxe (P : Program) (l : List (Nat × Sum)) : Cx := { P := P, sums := tab l, exts := fun _ => none, meths := methT, wild := fun _ => false, fi := fiReal, nn := false, nan1 := fun _ => false, defs := fun _ => false, hs := fun _ _ _ => none }
def extL : List (Nat × Sum) := [(144, xFrom), (145, xBits), (279, xWhole .even), (280, xWhole .zero)]
def cxm (P : Program) (l : List (Nat × Sum)) : Cx := { P := P, sums := tab l, exts := tab extL, meths := methT, wild := wildT, fi := fiReal, nn := true, nan1 := nanT, defs := fun f => Nat.beq f 190, hs := fun _ _ _ => none }
end Go.Vm
namespace Go.Vm
open Go.Proofs
set_option linter.unusedVariables false
set_option maxRecDepth 1000000
theorem z_wh1 (R : Type) (k : Value → Option R) : evFn (cx Tryz.prog []) 60 245 [.float .f64 4607182418800017408] k = k (.bool true) := by kernel_rfl
theorem z_reals (wi : KCFB) (R : Type) a b (k : Value → Option R) : evFn (cx Tryz.prog [(135, sCFB wi)]) 60 243 [.complex .f64 a b] k = placeB wi R a b fun t => k (.bool t) := by kernel_rfl
theorem z_nought2 (R : Type) a b (k : Value → Option R) : evFn (cx Tryz.prog []) 60 244 [.complex .f64 a b] k = noughtK R a b fun t => k (.bool t) := by kernel_rfl
theorem z_echeck (re : KCB) (wi : KFFB) (no : KCB) (wh : KFB) (R : Type) kind a1 a2 s1 s2 p (k : Value → Option R) :
  evFn (cx Tryz.prog [(243, sCB re), (80, sFFB wi), (244, sCB no), (245, sFB wh)]) 60 199 [el kind a1 a2 s1 s2 p] k = checkB re wi no wh R kind a1 a2 s1 s2 p fun e => k (.int .i64 e) := by kernel_rfl
theorem z_whole2 (mul : KCCC) (R : Type) a b (k : Value → Option R) : evFn (cx Tryz.prog [(22, sCCC mul)]) 60 221 [.complex .f64 a b, .int .i64 2] k = mul R a b a b fun x y => k (.complex .f64 x y) := by kernel_rfl
theorem z_spS (re : KCB) (wi : KFFB) (no fin : KCB) (wh : KFB) (sub : KCCC) (R : Type) a1 a2 s1 s2 z1 z2 (k : Value → Option R) :
  evFn (cxe Tryz.prog [(199, sEI (checkB re wi no wh)), (243, sCB re), (244, sCB no), (93, sCB fin), (21, sCCC sub)]) 60 217 [el 1 a1 a2 s1 s2 0, .complex .f64 z1 z2] k =
    spS (checkB re wi no wh) re no fin sub R a1 a2 s1 s2 z1 z2 (vErr k) (zOk k) := by kernel_rfl
theorem z_spO (re : KCB) (wi : KFFB) (no fin : KCB) (wh : KFB) (sub div : KCCC) (scl : KCFC) (R : Type) a1 a2 s1 s2 z1 z2 (k : Value → Option R) :
  evFn (cxe Tryz.prog [(199, sEI (checkB re wi no wh)), (243, sCB re), (244, sCB no), (93, sCB fin), (21, sCCC sub), (179, sCCC div), (39, sCFC scl), (165, sPi)]) 60 217 [el 2 a1 a2 s1 s2 0, .complex .f64 z1 z2] k =
    spO (checkB re wi no wh) re no fin sub div scl R a1 a2 s1 s2 z1 z2 (vErr k) (zOk k) := by kernel_rfl
theorem z_spD (re : KCB) (wi : KFFB) (no fin : KCB) (sub div mul : KCCC) (scl : KCFC) (R : Type) a1 a2 s1 s2 z1 z2 (k : Value → Option R) :
  evFn (cxe Tryz.prog [(199, sEI (checkB re wi no wh1)), (243, sCB re), (244, sCB no), (245, sWh1), (93, sCB fin), (21, sCCC sub), (179, sCCC div), (39, sCFC scl), (221, sW2 mul)]) 60 217 [el 3 a1 a2 s1 s2 4607182418800017408, .complex .f64 z1 z2] k =
    spD (checkB re wi no wh1) re no fin sub div mul scl R a1 a2 s1 s2 z1 z2 (vErr k) (zOk k) := by kernel_rfl
theorem z_steps (R : Type) y (k : Value → Option R) : evFn (cx Tryz.prog []) 60 258 [.float .f64 y] k = stepsK R y fun s c => k (.tuple ⟨[.float .f64 s, .float .f64 c]⟩) := by kernel_rfl
end Go.Vm
namespace Go.Vm
open Go.Proofs
set_option linter.unusedVariables false
set_option maxRecDepth 1000000
theorem run_ext {P : Program} {f : FuncId} {fn : Func} {ext : Array Value → Sem Value} (h1 : P.funcs[f]? = some fn) (h2 : (fn.name == "runtime.NumGoroutine") = false) (h3 : fn.body.isNone = true)
    (h4 : Extern.find fn = some ext) (h5 : (Extern.findNext fn).isNone = true) {args : Array Value} {v : Value} (h6 : ext args = pure v) (w : World) : (callFunc f args).run P w = .ok (.value v) w := by
  have h5' : Extern.findNext fn = none := by simpa using h5
  have h2' : fn.name ≠ "runtime.NumGoroutine" := by simpa using h2
  have h3' : fn.body = none := by simpa using h3
  unfold callFunc
  simp [Sem.run_bind, h1, h2', h3', h4, h5', h6]
theorem e144 : ExtOk Tryz.prog 144 xFrom := by
  intro R args k r hr
  unfold xFrom at hr; split at hr
  · rename_i n
    rw [forceN_eq] at hr
    exact ⟨rfl, _, hr, rfl, fun w => run_ext Tryz.func144 (by kernel_rfl) (by kernel_rfl) (show Extern.find Tryz.f144 = some Extern.MathFloatBits.float64frombits by kernel_rfl) (by kernel_rfl) rfl w⟩
  · cases hr
theorem e145 : ExtOk Tryz.prog 145 xBits := by
  intro R args k r hr
  unfold xBits at hr; split at hr
  · rename_i b
    rw [fiReal_fair] at hr
    exact ⟨rfl, _, hr, rfl, fun w => run_ext Tryz.func145 (by kernel_rfl) (by kernel_rfl) (show Extern.find Tryz.f145 = some Extern.MathFloatBits.float64bits by kernel_rfl) (by kernel_rfl) rfl w⟩
  · cases hr
theorem whole_run {name : String} {way : Ieee.Toward} {x : Nat} {d : Ieee.Datum} (h : Ieee.double.read x = d) (hd : ∀ s t, d ≠ .nan s t) :
    Extern.MathFloor.toIntegral name way #[.float .f64 x] = pure (.float .f64 (Ieee.double.write (d.integral way))) := by
  show (match Ieee.double.read x with | .nan s t => _ | d => pure (Value.float .f64 (Ieee.double.write (d.integral way)))) = _
  rw [h]
  cases d with
  | number s m e => rfl
  | infinity s => rfl
  | nan s t => exact absurd rfl (hd s t)
theorem e279 : ExtOk Tryz.prog 279 (xWhole .even) := by
  intro R args k r hr
  unfold xWhole at hr; split at hr
  · rename_i x
    split at hr
    · cases hr
    · rename_i d hd
      rw [forceN_eq] at hr
      exact ⟨rfl, _, hr, rfl, fun w => run_ext Tryz.func279 (by kernel_rfl) (by kernel_rfl) (show Extern.find Tryz.f279 = some (Extern.MathFloor.toIntegral "math.RoundToEven" .even) by kernel_rfl) (by kernel_rfl) (whole_run rfl hd) w⟩
  · cases hr
theorem e280 : ExtOk Tryz.prog 280 (xWhole .zero) := by
  intro R args k r hr
  unfold xWhole at hr; split at hr
  · rename_i x
    split at hr
    · cases hr
    · rename_i d hd
      rw [forceN_eq] at hr
      exact ⟨rfl, _, hr, rfl, fun w => run_ext Tryz.func280 (by kernel_rfl) (by kernel_rfl) (show Extern.find Tryz.f280 = some (Extern.MathFloor.toIntegral "math.archTrunc" .zero) by kernel_rfl) (by kernel_rfl) (whole_run rfl hd) w⟩
  · cases hr

inductive ExtsOk (P : Program) : List (Nat × Sum) → Prop
  | nil : ExtsOk P []
  | cons {f : Nat} {g : Sum} {r : List (Nat × Sum)} (h : ExtOk P f g) (hr : ExtsOk P r) : ExtsOk P ((f, g) :: r)
theorem exts_ok {P : Program} : ∀ {l : List (Nat × Sum)}, ExtsOk P l → ∀ f g, tab l f = some g → ExtOk P f g
  | _, .nil, f, g, h => by simp [tab] at h
  | _, .cons (f := n) h hr, f, g, h' => by
    unfold tab at h'
    cases hb : Nat.beq n f with
    | true =>
      rw [hb] at h'
      cases h'
      rw [Nat.eq_of_beq_eq_true hb] at h
      exact h
    | false => rw [hb] at h'; exact exts_ok hr f g h'
theorem extL_ok : ExtsOk Tryz.prog extL := .cons e144 (.cons e145 (.cons e279 (.cons e280 .nil)))
end Go.Vm
namespace Go.Vm
open Ieee
set_option linter.unusedVariables false
set_option linter.unusedSimpArgs false

/-! ### Moebius maps of whole parts -/
structure GM where
  a1 : Int
  a2 : Int
  b1 : Int
  b2 : Int
  c1 : Int
  c2 : Int
  d1 : Int
  d2 : Int

structure IsM (m : Mp) (M : GM) : Prop where
  a : IsC m.a1 m.a2 M.a1 M.a2
  b : IsC m.b1 m.b2 M.b1 M.b2
  c : IsC m.c1 m.c2 M.c1 M.c2
  d : IsC m.d1 m.d2 M.d1 M.d2
  p : m.p = 0

structure GM.Le (M : GM) (n : Nat) : Prop where
  a1 : M.a1.natAbs ≤ n
  a2 : M.a2.natAbs ≤ n
  b1 : M.b1.natAbs ≤ n
  b2 : M.b2.natAbs ≤ n
  c1 : M.c1.natAbs ≤ n
  c2 : M.c2.natAbs ≤ n
  d1 : M.d1.natAbs ≤ n
  d2 : M.d2.natAbs ≤ n

def GM.x (M : GM) : Int := M.a1 * M.d1 - M.a2 * M.d2 - (M.b1 * M.c1 - M.b2 * M.c2)
def GM.y (M : GM) : Int := M.a1 * M.d2 + M.a2 * M.d1 - (M.b1 * M.c2 + M.b2 * M.c1)
def GM.No (M : GM) : Prop := M.x = 0 ∧ M.y = 0
instance (M : GM) : Decidable M.No := by unfold GM.No; infer_instance

def detK : KMC := detB mulK subK
def chkK : KMI := chk1B placeK noughtK withinK detK
def bothK : KC4 := bothB mulK addK
def toldK : KMM := toldB chkK
def thenK : KMMM := thenB chkK bothK toldK
def turnedK : KMM := turnedB chkK negK toldK
def alikeK : KMMB := alikeB LikeK

theorem detK_int {m : Mp} {M : GM} {n : Nat} (h : IsM m M) (hl : M.Le n) (hn : 4 * (n * n) < 2 ^ 53) :
    ∃ p q, IsC p q M.x M.y ∧ ∀ (R : Type) (k : Nat → Nat → Option R), detK R m k = k p q := by
  obtain ⟨s, t, g1, g2, g3, g4⟩ := mulK_int h.a h.d hl.a1 hl.a2 hl.d1 hl.d2 (by omega)
  obtain ⟨s', t', g1', g2', g3', g4'⟩ := mulK_int h.b h.c hl.b1 hl.b2 hl.c1 hl.c2 (by omega)
  obtain ⟨p, q, f1, f2⟩ := subK_int g1 g1' (by omega) (by omega)
  exact ⟨p, q, f1, fun R k => by unfold detK detB; rw [g4, g4', f2]⟩

theorem chkK_int {m : Mp} {M : GM} {n : Nat} (h : IsM m M) (hl : M.Le n) (hn : 4 * (n * n) < 2 ^ 53) (hn' : n ≤ 2 ^ 40) {R : Type} (k : Int → Option R) :
    chkK R m k = k (if M.No then 180 else 0) := by
  have hp : ∀ {x : Int}, x.natAbs ≤ n → x.natAbs ≤ 2 ^ 40 := fun h => Nat.le_trans h hn'
  have hz : IsC 0 0 0 0 := ⟨is_zero, is_zero⟩
  have hw : ∀ (k : Bool → Option R), withinK R 0 4787326403894837248 k = k true := fun k => withinK_int is_zero (by decide) k
  have he : eqF 0 0 = true := by rw [eqF_is is_zero is_zero]; simp
  obtain ⟨p, q, f1, f2⟩ := detK_int h hl hn
  unfold chkK chk1B chkHead
  rw [placeK_int h.a (hp hl.a1) (hp hl.a2)]
  simp only [forceB_eq]
  rw [placeK_int h.b (hp hl.b1) (hp hl.b2)]
  simp only
  rw [placeK_int h.c (hp hl.c1) (hp hl.c2)]
  simp only
  rw [placeK_int h.d (hp hl.d1) (hp hl.d2)]
  simp only
  rw [h.p, hw]
  simp only [he, f2, noughtK_int f1]
  rw [noughtK_int h.a]
  have h0 : M.No ↔ (M.x = 0 ∧ M.y = 0) := Iff.rfl
  by_cases h1 : M.a1 = 0 ∧ M.a2 = 0
  · by_cases hn : M.x = 0 ∧ M.y = 0 <;> simp [h0, h1, hn]
  · simp only [h1, decide_false]
    rw [noughtK_int h.c]
    by_cases h2 : M.c1 = 0 ∧ M.c2 = 0
    · simp only [h2, and_self, decide_true]
      rw [noughtK_int h.d]
      by_cases hn : M.x = 0 ∧ M.y = 0 <;> simp [h0, hn]
    · by_cases hn : M.x = 0 ∧ M.y = 0 <;> simp [h0, h2, hn]

def GM.cat (M N : GM) : GM where
  a1 := N.a1 * M.a1 - N.a2 * M.a2 + (N.b1 * M.c1 - N.b2 * M.c2)
  a2 := N.a1 * M.a2 + N.a2 * M.a1 + (N.b1 * M.c2 + N.b2 * M.c1)
  b1 := N.a1 * M.b1 - N.a2 * M.b2 + (N.b1 * M.d1 - N.b2 * M.d2)
  b2 := N.a1 * M.b2 + N.a2 * M.b1 + (N.b1 * M.d2 + N.b2 * M.d1)
  c1 := N.c1 * M.a1 - N.c2 * M.a2 + (N.d1 * M.c1 - N.d2 * M.c2)
  c2 := N.c1 * M.a2 + N.c2 * M.a1 + (N.d1 * M.c2 + N.d2 * M.c1)
  d1 := N.c1 * M.b1 - N.c2 * M.b2 + (N.d1 * M.d1 - N.d2 * M.d2)
  d2 := N.c1 * M.b2 + N.c2 * M.b1 + (N.d1 * M.d2 + N.d2 * M.d1)

theorem bothK_int {a b c d a' b' c' d' : Nat} {x y u v x' y' u' v' : Int} {p q : Nat} (h1 : IsC a b x y) (h2 : IsC c d u v) (h3 : IsC a' b' x' y') (h4 : IsC c' d' u' v')
    (b1 : x.natAbs ≤ p) (b2 : y.natAbs ≤ p) (b3 : u.natAbs ≤ q) (b4 : v.natAbs ≤ q) (b5 : x'.natAbs ≤ p) (b6 : y'.natAbs ≤ p) (b7 : u'.natAbs ≤ q) (b8 : v'.natAbs ≤ q) (hb : 4 * (p * q) < 2 ^ 53) :
    ∃ s t, IsC s t (x * u - y * v + (x' * u' - y' * v')) (x * v + y * u + (x' * v' + y' * u')) ∧ (x * u - y * v + (x' * u' - y' * v')).natAbs ≤ 4 * (p * q) ∧ (x * v + y * u + (x' * v' + y' * u')).natAbs ≤ 4 * (p * q) ∧
      ∀ (R : Type) (k : Nat → Nat → Option R), bothK R a b c d a' b' c' d' k = k s t := by
  obtain ⟨s, t, g1, g2, g3, g4⟩ := mulK_int h1 h2 b1 b2 b3 b4 (by omega)
  obtain ⟨s', t', g1', g2', g3', g4'⟩ := mulK_int h3 h4 b5 b6 b7 b8 (by omega)
  obtain ⟨e, f, f1, f2⟩ := addK_int g1 g1' (by omega) (by omega)
  exact ⟨e, f, f1, by omega, by omega, fun R k => by unfold bothK bothB; rw [g4, g4', f2]⟩

theorem norm_zero {a b : Int} (h : a * a + b * b = 0) : a = 0 ∧ b = 0 := by
  have h1 : 0 ≤ a * a := by
    rcases Int.le_total 0 a with h | h
    · exact Int.mul_nonneg h h
    · have := Int.mul_nonneg (show 0 ≤ -a by omega) (show 0 ≤ -a by omega); grind
  have h2 : 0 ≤ b * b := by
    rcases Int.le_total 0 b with h | h
    · exact Int.mul_nonneg h h
    · have := Int.mul_nonneg (show 0 ≤ -b by omega) (show 0 ≤ -b by omega); grind
  have h3 : a * a = 0 := by omega
  have h4 : b * b = 0 := by omega
  exact ⟨by simpa using Int.mul_eq_zero.1 h3, by simpa using Int.mul_eq_zero.1 h4⟩

theorem gauss_domain {a b c d : Int} (h1 : a * c - b * d = 0) (h2 : a * d + b * c = 0) : (a = 0 ∧ b = 0) ∨ (c = 0 ∧ d = 0) := by
  have h3 : (a * a + b * b) * (c * c + d * d) = 0 := by
    have : (a * a + b * b) * (c * c + d * d) = (a * c - b * d) * (a * c - b * d) + (a * d + b * c) * (a * d + b * c) := by grind
    rw [this, h1, h2]; rfl
  rcases Int.mul_eq_zero.1 h3 with h | h
  · exact .inl (norm_zero h)
  · exact .inr (norm_zero h)

theorem cat_det (M N : GM) : (M.cat N).x = M.x * N.x - M.y * N.y ∧ (M.cat N).y = M.x * N.y + M.y * N.x := by
  unfold GM.x GM.y GM.cat
  constructor <;> grind

theorem cat_no {M N : GM} (h1 : ¬ M.No) (h2 : ¬ N.No) : ¬ (M.cat N).No := by
  intro h
  obtain ⟨e1, e2⟩ := cat_det M N
  have g1 : (M.cat N).x = 0 := h.1
  have g2 : (M.cat N).y = 0 := h.2
  rw [e1] at g1
  rw [e2] at g2
  rcases gauss_domain g1 g2 with h | h
  · exact h1 h
  · exact h2 h

theorem toldK_int {m : Mp} {M : GM} {n : Nat} (h : IsM m M) (hl : M.Le n) (hn : 4 * (n * n) < 2 ^ 53) (hn' : n ≤ 2 ^ 40) (hd : ¬ M.No) {R : Type} (ke : Int → Option R) (k : Mp → Option R) :
    toldK R m ke k = k m := by
  unfold toldK toldB
  rw [chkK_int h hl hn hn', if_neg hd, forceB_eq]
  rfl

theorem cat_le {M N : GM} {p q : Nat} (hm : M.Le p) (hn : N.Le q) : (M.cat N).Le (4 * (q * p)) := by
  have f : ∀ {x y u v x' y' u' v' : Int}, x.natAbs ≤ q → y.natAbs ≤ q → u.natAbs ≤ p → v.natAbs ≤ p → x'.natAbs ≤ q → y'.natAbs ≤ q → u'.natAbs ≤ p → v'.natAbs ≤ p →
      (x * u - y * v + (x' * u' - y' * v')).natAbs ≤ 4 * (q * p) ∧ (x * v + y * u + (x' * v' + y' * u')).natAbs ≤ 4 * (q * p) := fun h1 h2 h3 h4 h5 h6 h7 h8 => by
    have m1 := natAbs_mul_le h1 h3
    have m2 := natAbs_mul_le h2 h4
    have m3 := natAbs_mul_le h1 h4
    have m4 := natAbs_mul_le h2 h3
    have m5 := natAbs_mul_le h5 h7
    have m6 := natAbs_mul_le h6 h8
    have m7 := natAbs_mul_le h5 h8
    have m8 := natAbs_mul_le h6 h7
    omega
  have fa := f hn.a1 hn.a2 hm.a1 hm.a2 hn.b1 hn.b2 hm.c1 hm.c2
  have fb := f hn.a1 hn.a2 hm.b1 hm.b2 hn.b1 hn.b2 hm.d1 hm.d2
  have fc := f hn.c1 hn.c2 hm.a1 hm.a2 hn.d1 hn.d2 hm.c1 hm.c2
  have fd := f hn.c1 hn.c2 hm.b1 hm.b2 hn.d1 hn.d2 hm.d1 hm.d2
  exact ⟨fa.1, fa.2, fb.1, fb.2, fc.1, fc.2, fd.1, fd.2⟩

theorem thenK_int {m n : Mp} {M N : GM} {p q : Nat} (hm : IsM m M) (hn : IsM n N) (lm : M.Le p) (ln : N.Le q) (b1 : p ≤ 2 ^ 25) (b2 : q ≤ 2 ^ 25) (b3 : 4 * (q * p) ≤ 2 ^ 25) (d1 : ¬ M.No) (d2 : ¬ N.No) :
    ∃ r, IsM r (M.cat N) ∧ ∀ (R : Type) (ke : Int → Option R) (k : Mp → Option R), thenK R m n ke k = k r := by
  have sq : ∀ {n : Nat}, n ≤ 2 ^ 25 → 4 * (n * n) < 2 ^ 53 ∧ n ≤ 2 ^ 40 := fun {n} h => by
    have := Nat.mul_le_mul h h
    omega
  obtain ⟨s1, t1, e1, _, _, g1⟩ := bothK_int hn.a hm.a hn.b hm.c ln.a1 ln.a2 lm.a1 lm.a2 ln.b1 ln.b2 lm.c1 lm.c2 (by omega)
  obtain ⟨s2, t2, e2, _, _, g2⟩ := bothK_int hn.a hm.b hn.b hm.d ln.a1 ln.a2 lm.b1 lm.b2 ln.b1 ln.b2 lm.d1 lm.d2 (by omega)
  obtain ⟨s3, t3, e3, _, _, g3⟩ := bothK_int hn.c hm.a hn.d hm.c ln.c1 ln.c2 lm.a1 lm.a2 ln.d1 ln.d2 lm.c1 lm.c2 (by omega)
  obtain ⟨s4, t4, e4, _, _, g4⟩ := bothK_int hn.c hm.b hn.d hm.d ln.c1 ln.c2 lm.b1 lm.b2 ln.d1 ln.d2 lm.d1 lm.d2 (by omega)
  have hr : IsM ⟨s1, t1, s2, t2, s3, t3, s4, t4, 0⟩ (M.cat N) := ⟨e1, e2, e3, e4, rfl⟩
  refine ⟨_, hr, fun R ke k => ?_⟩
  unfold thenK thenB
  rw [chkK_int hm lm (sq b1).1 (sq b1).2, if_neg d1, forceB_eq]
  simp only [bne_self_eq_false]
  rw [chkK_int hn ln (sq b2).1 (sq b2).2, if_neg d2, forceB_eq]
  simp only [bne_self_eq_false]
  rw [g1, g2, g3, g4]
  exact toldK_int hr (cat_le lm ln) (sq b3).1 (sq b3).2 (cat_no d1 d2) ke k

def GM.back (M : GM) : GM := ⟨M.d1, M.d2, -M.b1, -M.b2, -M.c1, -M.c2, M.a1, M.a2⟩
theorem back_no {M : GM} (h : ¬ M.No) : ¬ M.back.No := by
  intro g
  refine h ⟨?_, ?_⟩
  · have : M.back.x = 0 := g.1
    unfold GM.x GM.back at *; grind
  · have : M.back.y = 0 := g.2
    unfold GM.y GM.back at *; grind

theorem turnedK_int {m : Mp} {M : GM} {p : Nat} (hm : IsM m M) (lm : M.Le p) (b1 : p ≤ 2 ^ 25) (d1 : ¬ M.No) :
    ∃ r, IsM r M.back ∧ ∀ (R : Type) (ke : Int → Option R) (k : Mp → Option R), turnedK R m ke k = k r := by
  have sq : 4 * (p * p) < 2 ^ 53 ∧ p ≤ 2 ^ 40 := by
    have := Nat.mul_le_mul b1 b1
    omega
  obtain ⟨s, t, e1, g1⟩ := negK_int hm.b
  obtain ⟨u, v, e2, g2⟩ := negK_int hm.c
  have hr : IsM ⟨m.d1, m.d2, s, t, u, v, m.a1, m.a2, 0⟩ M.back := ⟨hm.d, e1, e2, hm.a, rfl⟩
  have hl : M.back.Le p := ⟨lm.d1, lm.d2, by simp [GM.back]; exact lm.b1, by simp [GM.back]; exact lm.b2, by simp [GM.back]; exact lm.c1, by simp [GM.back]; exact lm.c2, lm.a1, lm.a2⟩
  refine ⟨_, hr, fun R ke k => ?_⟩
  unfold turnedK turnedB
  rw [chkK_int hm lm sq.1 sq.2, if_neg d1, forceB_eq]
  simp only [bne_self_eq_false]
  rw [g1, g2]
  exact toldK_int hr hl sq.1 sq.2 (back_no d1) ke k

theorem alikeK_int {m n : Mp} {M : GM} (hm : IsM m M) (hn : IsM n M) {R : Type} (k : Bool → Option R) : alikeK R m n k = k true := by
  unfold alikeK alikeB
  rw [LikeK_int hm.a hn.a, forceB_eq]
  simp only [and_self, decide_true]
  rw [LikeK_int hm.b hn.b, forceB_eq]
  simp only [and_self, decide_true]
  rw [LikeK_int hm.c hn.c, forceB_eq]
  simp only [and_self, decide_true]
  rw [LikeK_int hm.d hn.d]
  simp [forceB_eq]

/-! ### Small whole parts -/
def upG : KGB := fun R x y k => upK x y k
def ofG : KGC := fun R x y k => ofK x y k
def smallK : KFrB := smallB upG
def frK : KFrM := frB ofG

theorem upG_eq (x y : Int) {R : Type} (k : Bool → Option R) : upG R x y k = k (decide (x.natAbs ≤ 8 ∧ y.natAbs ≤ 8)) := by
  unfold upG upK
  simp only [forceB_eq]
  by_cases h1 : x ≥ -8
  · simp only [h1, decide_true]
    by_cases h2 : x ≤ 8
    · simp only [h2, decide_true]
      by_cases h3 : y ≥ -8
      · simp only [h3, decide_true]
        congr 1
        by_cases h4 : y ≤ 8
        · have : x.natAbs ≤ 8 ∧ y.natAbs ≤ 8 := by omega
          simp [h4, this]
        · have : ¬ (x.natAbs ≤ 8 ∧ y.natAbs ≤ 8) := by omega
          simp [h4, this]
      · have : ¬ (x.natAbs ≤ 8 ∧ y.natAbs ≤ 8) := by omega
        simp [h3, this]
    · have : ¬ (x.natAbs ≤ 8 ∧ y.natAbs ≤ 8) := by omega
      simp [h2, this]
  · have : ¬ (x.natAbs ≤ 8 ∧ y.natAbs ≤ 8) := by omega
    simp [h1, this]

def Fr.gm (f : Fr) : GM := ⟨f.a1, f.a2, f.b1, f.b2, f.c1, f.c2, f.d1, f.d2⟩

theorem smallK_cases (f : Fr) : ((∀ (R : Type) (k : Bool → Option R), smallK R f k = k true) ∧ f.gm.Le 8) ∨ (∀ (R : Type) (k : Bool → Option R), smallK R f k = k false) := by
  by_cases h1 : f.a1.natAbs ≤ 8 ∧ f.a2.natAbs ≤ 8
  · by_cases h2 : f.b1.natAbs ≤ 8 ∧ f.b2.natAbs ≤ 8
    · by_cases h3 : f.c1.natAbs ≤ 8 ∧ f.c2.natAbs ≤ 8
      · by_cases h4 : f.d1.natAbs ≤ 8 ∧ f.d2.natAbs ≤ 8
        · exact .inl ⟨fun R k => by unfold smallK smallB; simp [upG_eq, forceB_eq, h1, h2, h3, h4], ⟨h1.1, h1.2, h2.1, h2.2, h3.1, h3.2, h4.1, h4.2⟩⟩
        · exact .inr fun R k => by unfold smallK smallB; simp only [upG_eq, forceB_eq, h1, h2, h3, h4, and_self, decide_true, decide_false]
      · exact .inr fun R k => by unfold smallK smallB; simp only [upG_eq, forceB_eq, h1, h2, h3, and_self, decide_true, decide_false]
    · exact .inr fun R k => by unfold smallK smallB; simp only [upG_eq, forceB_eq, h1, h2, and_self, decide_true, decide_false]
  · exact .inr fun R k => by unfold smallK smallB; simp only [upG_eq, forceB_eq, h1, and_self, decide_true, decide_false]

theorem ofG_eq {R : Type} (x y : Int) (k : Nat → Nat → Option R) : ofG R x y k = k (floatOfInt .f64 x) (floatOfInt .f64 y) := by
  unfold ofG ofK; rw [forceN_eq, forceN_eq]
def Fr.mp (f : Fr) : Mp := ⟨floatOfInt .f64 f.a1, floatOfInt .f64 f.a2, floatOfInt .f64 f.b1, floatOfInt .f64 f.b2, floatOfInt .f64 f.c1, floatOfInt .f64 f.c2, floatOfInt .f64 f.d1, floatOfInt .f64 f.d2, 0⟩
theorem frK_eq {R : Type} (f : Fr) (k : Mp → Option R) : frK R f k = k f.mp := by
  unfold frK frB
  simp only [ofG_eq]
  rfl
theorem fr_is {f : Fr} (h : f.gm.Le 8) : IsM f.mp f.gm := by
  have g : ∀ {x : Int}, x.natAbs ≤ 8 → Is (floatOfInt .f64 x) x := fun h => ofInt_is (Nat.lt_of_le_of_lt h (by decide))
  exact ⟨⟨g h.a1, g h.a2⟩, ⟨g h.b1, g h.b2⟩, ⟨g h.c1, g h.c2⟩, ⟨g h.d1, g h.d2⟩, rfl⟩

def groupK := groupB smallK frK chkK thenK alikeK turnedK mulK subK LikeK

theorem cat_assoc (L M N : GM) : (L.cat M).cat N = L.cat (M.cat N) := by
  unfold GM.cat
  simp only [GM.mk.injEq]
  refine ⟨?_, ?_, ?_, ?_, ?_, ?_, ?_, ?_⟩ <;> grind

theorem cat_back (M : GM) : M.cat M.back = ⟨M.x, M.y, 0, 0, 0, 0, M.x, M.y⟩ := by
  unfold GM.cat GM.back GM.x GM.y
  simp only [GM.mk.injEq]
  refine ⟨?_, ?_, ?_, ?_, ?_, ?_, ?_, ?_⟩ <;> grind

theorem groupK_true {R : Type} (f g h : Fr) (k : Bool → Option R) : groupK R f g h k = k true := by
  unfold groupK groupB
  simp only [frK_eq]
  rcases smallK_cases f with ⟨sf, lf⟩ | sf
  case inr => simp [sf, forceB_eq]
  rcases smallK_cases g with ⟨sg, lg⟩ | sg
  case inr => simp [sf, sg, forceB_eq]
  rcases smallK_cases h with ⟨sh, lh⟩ | sh
  case inr => simp [sf, sg, sh, forceB_eq]
  simp only [sf, sg, sh, forceB_eq]
  have il := fr_is lf
  have im := fr_is lg
  have in_ := fr_is lh
  generalize f.mp = l at *
  generalize g.mp = m at *
  generalize h.mp = n at *
  generalize f.gm = L at *
  generalize g.gm = M at *
  generalize h.gm = N at *
  rw [chkK_int il lf (by decide) (by decide)]
  by_cases dl : L.No
  · simp [dl]
  simp only [dl, if_false, bne_self_eq_false]
  rw [chkK_int im lg (by decide) (by decide)]
  by_cases dm : M.No
  · simp [dm]
  simp only [dm, if_false, bne_self_eq_false]
  rw [chkK_int in_ lh (by decide) (by decide)]
  by_cases dn : N.No
  · simp [dn]
  simp only [dn, if_false, bne_self_eq_false]
  obtain ⟨lm, ilm, elm⟩ := thenK_int il im lf lg (by decide) (by decide) (by decide) dl dm
  obtain ⟨mn, imn, emn⟩ := thenK_int im in_ lg lh (by decide) (by decide) (by decide) dm dn
  obtain ⟨le, ile, ele⟩ := thenK_int ilm in_ (cat_le lf lg) lh (by decide) (by decide) (by decide) (cat_no dl dm) dn
  obtain ⟨ri, iri, eri⟩ := thenK_int il imn lf (cat_le lg lh) (by decide) (by decide) (by decide) dl (cat_no dm dn)
  obtain ⟨ba, iba, eba⟩ := turnedK_int il lf (by decide) dl
  have lb : L.back.Le 8 := ⟨lf.d1, lf.d2, by simp [GM.back]; exact lf.b1, by simp [GM.back]; exact lf.b2, by simp [GM.back]; exact lf.c1, by simp [GM.back]; exact lf.c2, lf.a1, lf.a2⟩
  obtain ⟨no, ino, eno⟩ := thenK_int il iba lf lb (by decide) (by decide) (by decide) dl (back_no dl)
  rw [elm, emn, ele, eri]
  rw [cat_assoc] at ile
  rw [alikeK_int ile iri]
  simp only
  rw [eba, eno]
  rw [cat_back] at ino
  unfold gTail
  obtain ⟨s, t, g1, g2, g3, g4⟩ := mulK_int il.a il.d lf.a1 lf.a2 lf.d1 lf.d2 (by decide)
  obtain ⟨s', t', g1', g2', g3', g4'⟩ := mulK_int il.b il.c lf.b1 lf.b2 lf.c1 lf.c2 (by decide)
  obtain ⟨p, q, f1, f2⟩ := subK_int g1 g1' (by omega) (by omega)
  rw [g4, g4', f2]
  simp only [forceB_eq, beq_self_eq_true]
  have f1' : IsC p q L.x L.y := f1
  unfold gRest
  rw [LikeK_int ino.a f1']
  simp only [and_self, decide_true, forceB_eq]
  rw [LikeK_int ino.d f1']
  simp only [and_self, decide_true, forceB_eq]
  rw [eqF_is ino.b.1 is_zero, eqF_is ino.b.2 is_zero, eqF_is ino.c.1 is_zero, eqF_is ino.c.2 is_zero]
  simp
end Go.Vm
namespace Go.Vm
open Ieee
set_option linter.unusedVariables false
set_option linter.unusedSimpArgs false

theorem and_two_pow' (y i : Nat) : y &&& 2 ^ i = (y.testBit i).toNat * 2 ^ i := by
  apply Nat.eq_of_testBit_eq
  intro j
  rw [Nat.testBit_and, Nat.testBit_two_pow]
  by_cases h : i = j
  · subst h
    cases y.testBit i
    · simp
    · simp [Nat.testBit_two_pow_self]
  · cases y.testBit i
    · simp [h]
    · simp [Nat.testBit_two_pow, h]

theorem strip_eq {s : Bool} {E f : Nat} (hE : E ≤ 2046) (hf : f < 2 ^ 52) : andNotU ((((if s then 2 ^ 63 else 0) + E * 2 ^ 52 + f : Nat)) : Int) 9218868437227405312 = (((if s then 2 ^ 63 else 0) + f : Nat) : Int) := by
  have hlt : (if s then 2 ^ 63 else 0) + E * 2 ^ 52 + f < 2 ^ 64 := by split <;> omega
  have h1 := andNotU_eq (a := (if s then 2 ^ 63 else 0) + E * 2 ^ 52 + f) (b := 9218868437227405312) hlt (by decide)
  have hm : 2 ^ 64 - 1 - 9218868437227405312 = 2 ^ 63 ||| (2 ^ 52 - 1) := by decide
  rw [hm, Nat.and_or_distrib_left, Nat.and_two_pow_sub_one_eq_mod, and_two_pow'] at h1
  have h2 : ((if s then 2 ^ 63 else 0) + E * 2 ^ 52 + f).testBit 63 = s := by
    rw [Nat.testBit_eq_decide_div_mod_eq]
    cases s
    · simp only [Bool.false_eq_true, if_false]
      have : (0 + E * 2 ^ 52 + f) / 2 ^ 63 % 2 = 0 := by omega
      rw [this]; rfl
    · simp only [if_true]
      have : (2 ^ 63 + E * 2 ^ 52 + f) / 2 ^ 63 % 2 = 1 := by omega
      rw [this]; rfl
  have h3 : ((if s then 2 ^ 63 else 0) + E * 2 ^ 52 + f) % 2 ^ 52 = f := by
    cases s
    · simp only [Bool.false_eq_true, if_false]; omega
    · simp only [if_true]; omega
  rw [h2, h3] at h1
  rw [show ((9218868437227405312 : Nat) : Int) = 9218868437227405312 by rfl] at h1
  rw [h1]
  congr 1
  cases s
  · simp
  · simp only [Bool.toNat_true, Nat.one_mul, if_true]
    have := Nat.two_pow_add_eq_or_of_lt (i := 63) (b := f) (by omega) 1
    rw [Nat.mul_one] at this
    exact this.symm

theorem lay_eq {s : Bool} {E f : Nat} (hE : E ≤ 2047) (hf : f < 2 ^ 52) : (orU ((((if s then 2 ^ 63 else 0) + f : Nat)) : Int) ((E * 2 ^ 52 : Nat) : Int)).toNat = (if s then 2 ^ 63 else 0) + E * 2 ^ 52 + f := by
  rw [orU_eq (by split <;> omega) (by omega), Int.toNat_natCast]
  have h1 : ((if s then 2 ^ 63 else 0) + f) = 2 ^ 52 * (if s then 2 ^ 11 else 0) ||| f := by
    rw [← Nat.two_pow_add_eq_or_of_lt hf]
    cases s
    · simp
    · simp only [if_true]
  have h2 : 2 ^ 52 * (if s then 2 ^ 11 else 0) ||| E * 2 ^ 52 = 2 ^ 52 * ((if s then 2 ^ 11 else 0) + E) := by
    have g1 : (if s then 2 ^ 11 else 0) + E = (if s then 2 ^ 11 else 0) ||| E := by
      cases s
      · simp
      · simp only [if_true]
        have := Nat.two_pow_add_eq_or_of_lt (i := 11) (b := E) (by omega) 1
        rwa [Nat.mul_one] at this
    rw [g1]
    generalize (if s then 2 ^ 11 else 0) = t
    rw [Nat.mul_comm (2 ^ 52) t, Nat.mul_comm (2 ^ 52)]
    have := @Nat.shiftLeft_or_distrib 52 t E
    simp only [Nat.shiftLeft_eq] at this
    exact this.symm
  rw [h1, Nat.or_assoc, Nat.or_comm f, ← Nat.or_assoc, h2, ← Nat.two_pow_add_eq_or_of_lt hf]
  cases s
  · simp only [Bool.false_eq_true, if_false]; omega
  · simp only [if_true]; omega

theorem copy_zero {y : Nat} (hy : y < 2 ^ 64) : ∃ w, Is w 0 ∧ ∀ (R : Type) (k : Nat → Option R), copyK R 0 y k = k w := by
  have h0 : andNotU 0 9223372036854775808 = 0 := by decide
  have h1 := andU_eq (a := y) (b := 9223372036854775808) hy (by decide)
  rw [show ((9223372036854775808 : Nat) : Int) = 9223372036854775808 by rfl] at h1
  have h2 : y &&& 9223372036854775808 = (y.testBit 63).toNat * 2 ^ 63 := by
    rw [show (9223372036854775808 : Nat) = 2 ^ 63 by decide, and_two_pow']
  refine ⟨(y.testBit 63).toNat * 2 ^ 63, ?_, fun R k => ?_⟩
  · cases y.testBit 63
    · simp only [Bool.toNat_false, Nat.zero_mul]
      exact ⟨by decide, false, 0, -1074, by decide, dv_zero _ _⟩
    · simp only [Bool.toNat_true, Nat.one_mul]
      exact ⟨by decide, true, 0, -1074, by decide, dv_zero _ _⟩
  · unfold copyK
    have h3 := orU_eq (a := 0) (b := (y.testBit 63).toNat * 2 ^ 63) (by decide) (by cases y.testBit 63 <;> decide)
    show k (orU (andNotU ((0 : Nat) : Int) 9223372036854775808) (andU y 9223372036854775808)).toNat = _
    rw [h1, h2]
    rw [show (andNotU ((0 : Nat) : Int) 9223372036854775808) = ((0 : Nat) : Int) from h0, h3, Int.toNat_natCast, Nat.zero_or]

theorem clampI_eq {n : Int} (h1 : -5000 ≤ n) (h2 : n ≤ 5000) : clampI n = n := by
  unfold clampI
  split <;> split <;> omega

/-- A word times a power of two, rounded once. -/
theorem scaleK_is {a : Nat} {x : Rat} {n : Int} (h : Is a x) (hn1 : -5000 ≤ n) (hn2 : n ≤ 5000) (hlt : (x * (2 : Rat) ^ n).abs < (2 : Rat) ^ (1023 : Int)) :
    ∃ r z, Is r z ∧ Rnd (x * (2 : Rat) ^ n) z ∧ ∀ (R : Type) (k : Nat → Option R), scaleK R a n k = k r := by
  have hdef : ∀ (R : Type) (k : Nat → Option R), scaleK R a n k = ldexpK R a n k := fun R k => by
    show ldexpK R a (clampI n) k = _
    rw [clampI_eq hn1 hn2]
  by_cases hx : x = 0
  · subst hx
    refine ⟨a, 0, h, ⟨.inl ?_, fun K q _ _ e => ?_⟩, fun R k => ?_⟩
    · rw [Rat.zero_mul, Rat.sub_self, abs_zero]; simp
    · exact (Rat.zero_mul _).symm
    · rw [hdef]
      unfold ldexpK ldexpB
      rw [forceB_eq, eqF_is h is_zero]
      simp
  · obtain ⟨y, e, he, hy, hnn, hk⟩ := normK_is h hx
    have hyw := hy.1
    obtain ⟨s, E, f, rfl, b1, b2, b3, hv⟩ := normal_fields hy hnn
    obtain ⟨d1, d2⟩ := dv_band (s := s) (E := E) b3
    have hx0 : ¬ (x = ((0 : Int) : Rat)) := by simpa using hx
    -- the exponent
    have hxe : x * (2 : Rat) ^ n = dv s (2 ^ 52 + f) ((E : Int) - 1075) * (2 : Rat) ^ (n + e) := by
      rw [← hv, Rat.mul_assoc, ← p2_add]
      congr 2
      omega
    have hdv : ∀ j : Int, dv s (2 ^ 52 + f) ((E : Int) - 1075) * (2 : Rat) ^ j = dv s (2 ^ 52 + f) ((E : Int) - 1075 + j) := fun j => by
      unfold dv; rw [p2_add]; grind
    have hlo : (2 : Rat) ^ (n + e + E - 1023) ≤ (x * (2 : Rat) ^ n).abs := by
      rw [hxe, abs_mul, p2_abs]
      have := Rat.mul_le_mul_of_nonneg_right d1 (Rat.le_of_lt (p2_pos (n + e)))
      rw [← p2_add, show (E : Int) - 1023 + (n + e) = n + e + E - 1023 by omega] at this
      exact this
    have hhi : (x * (2 : Rat) ^ n).abs < (2 : Rat) ^ (n + e + E - 1022) := by
      rw [hxe, abs_mul, p2_abs]
      have := Rat.mul_lt_mul_of_pos_right d2 (p2_pos (n + e))
      rw [← p2_add, show (E : Int) - 1022 + (n + e) = n + e + E - 1022 by omega] at this
      exact this
    have hex : n + e + E - 1023 < 1023 := p2_lt_of (by grind)
    have hgo : ∀ (R : Type) (k : Nat → Option R), scaleK R a n k = ldexpTail fiReal copyK ((if s then 2 ^ 63 else 0) + E * 2 ^ 52 + f) e n k := fun R k => by
      rw [hdef]
      unfold ldexpK ldexpB
      rw [forceB_eq, eqF_is h is_zero]
      simp only [hx0, decide_false]
      rw [isInfK_no h, forceB_eq]
      simp only
      rw [isNanK_no h, forceB_eq]
      simp only
      rw [hk]
    have hexpo : IntKind.i64.wrap (andI (IntKind.i64.wrap (shrU ((((if s then 2 ^ 63 else 0) + E * 2 ^ 52 + f : Nat)) : Int) 52)) 2047 - 1023) = (E : Int) - 1023 := by
      have h1 : ((if s then 2 ^ 63 else 0) + E * 2 ^ 52 + f) / 2 ^ 52 = (if s then 2048 else 0) + E := by
        cases s
        · simp only [Bool.false_eq_true, if_false]; omega
        · simp only [if_true]; omega
      rw [shrU_eq, h1, wrapI (n := (((if s then 2048 else 0) + E : Nat) : Int)) (by split <;> omega) (by split <;> omega)]
      have h2 := andI_eq (a := (if s then 2048 else 0) + E) (b := 2047) (by split <;> omega) (by decide)
      have h3 : ((if s then 2048 else 0) + E) &&& 2047 = E := by
        have := Nat.and_two_pow_sub_one_eq_mod ((if s then 2048 else 0) + E) 11
        rw [show 2 ^ 11 - 1 = 2047 by decide] at this
        rw [this]
        cases s
        · simp only [Bool.false_eq_true, if_false]; omega
        · simp only [if_true]; omega
      rw [h3, show ((2047 : Nat) : Int) = 2047 by rfl] at h2
      rw [h2, wrapI (by omega) (by omega)]
    have htail : ∀ (R : Type) (k : Nat → Option R), ldexpTail fiReal copyK ((if s then 2 ^ 63 else 0) + E * 2 ^ 52 + f) e n k =
        if n + e + E - 1023 < -1075 then copyK R 0 ((if s then 2 ^ 63 else 0) + E * 2 ^ 52 + f) k
        else if n + e + E - 1023 < -1022 then ldexpEnd fiReal ((if s then 2 ^ 63 else 0) + E * 2 ^ 52 + f) (n + e + E - 970) 4368491638549381120 k
        else ldexpEnd fiReal ((if s then 2 ^ 63 else 0) + E * 2 ^ 52 + f) (n + e + E - 1023) 4607182418800017408 k := fun R k => by
      unfold ldexpTail
      simp only [fiReal_fair R]
      rw [hexpo, wrapI (n := n + e) (by omega) (by omega), wrapI (n := n + e + ((E : Int) - 1023)) (by omega) (by omega)]
      rw [show n + e + ((E : Int) - 1023) = n + e + E - 1023 by omega]
      simp only [forceB_eq]
      by_cases c1 : n + e + E - 1023 < -1075
      · simp [c1]
      · have c2 : ¬ (n + e + E - 1023 > 1023) := by omega
        by_cases c3 : n + e + E - 1023 < -1022
        · simp only [c1, c2, c3, decide_false, decide_true, if_false, if_true]
          rw [wrapI (by omega) (by omega), show n + e + (E : Int) - 1023 + 53 = n + e + E - 970 by omega]
        · simp only [c1, c2, c3, decide_false, if_false]
    have hend : ∀ (ex : Int) (m : Nat) (R : Type) (k : Nat → Option R), -1022 ≤ ex → ex ≤ 1023 → ldexpEnd fiReal ((if s then 2 ^ 63 else 0) + E * 2 ^ 52 + f) ex m k =
        bindF (fbF .mul m ((if s then 2 ^ 63 else 0) + (ex + 1023).toNat * 2 ^ 52 + f)) k := fun ex m R k g1 g2 => by
      unfold ldexpEnd
      simp only [fiReal_fair R]
      rw [wrapI (by omega) (by omega), wrapU (by omega) (by omega), strip_eq b2 b3]
      obtain ⟨t, ht⟩ := Int.eq_ofNat_of_zero_le (show 0 ≤ ex + 1023 by omega)
      rw [ht, shlU_eq (by omega), lay_eq (by omega) b3, Int.toNat_natCast]
    by_cases c1 : n + e + E - 1023 < -1075
    · obtain ⟨w, g1, g2⟩ := copy_zero hyw
      have hsm : (x * (2 : Rat) ^ n).abs < (2 : Rat) ^ (-1075 : Int) := by
        have := p2_le (show n + e + E - 1022 ≤ -1075 by omega)
        grind
      refine ⟨w, 0, g1, ⟨.inr ?_, fun K q k1 k2 k3 => ?_⟩, fun R k => by rw [hgo, htail, if_pos c1, g2]⟩
      · rw [show (0 : Rat) - x * (2 : Rat) ^ n = -(x * (2 : Rat) ^ n) by grind, abs_neg]
        grind
      · rw [k3, abs_mul, int_abs, p2_abs] at hsm
        have hK : K.natAbs = 0 := by
          rcases Nat.eq_zero_or_pos K.natAbs with h0 | h0
          · exact h0
          · exfalso
            have f1 : ((1 : Nat) : Rat) ≤ ((K.natAbs : Nat) : Rat) := nat_cast_le h0
            have f2 := Rat.mul_le_mul_of_nonneg_right f1 (Rat.le_of_lt (p2_pos q))
            have f3 := p2_le (show (-1075 : Int) ≤ q by omega)
            have f4 : ((1 : Nat) : Rat) * (2 : Rat) ^ q = (2 : Rat) ^ q := by simp
            grind
        have : K = 0 := by omega
        rw [k3, this]
        simp
    · by_cases c3 : n + e + E - 1023 < -1022
      · have hw := fields_is (s := s) (E := (n + e + E - 970 + 1023).toNat) (f := f) (by omega) (by omega) b3
        have hval : (2 : Rat) ^ (-53 : Int) * dv s (2 ^ 52 + f) ((((n + e + E - 970 + 1023).toNat : Nat) : Int) - 1075) = x * (2 : Rat) ^ n := by
          rw [hxe, hdv, Rat.mul_comm]
          unfold dv
          rw [Rat.mul_assoc, Rat.mul_assoc, ← p2_add]
          congr 3
          omega
        obtain ⟨r, z, m1, m2, m3⟩ := mul_is is_m53 hw (by rw [hval]; exact hlt)
        rw [hval] at m3
        exact ⟨r, z, m2, m3, fun R k => by rw [hgo, htail, if_neg c1, if_pos c3, hend _ _ R k (by omega) (by omega), bindF_eq m1]⟩
      · have hw := fields_is (s := s) (E := (n + e + E - 1023 + 1023).toNat) (f := f) (by omega) (by omega) b3
        have hval : 1 * dv s (2 ^ 52 + f) ((((n + e + E - 1023 + 1023).toNat : Nat) : Int) - 1075) = x * (2 : Rat) ^ n := by
          rw [hxe, hdv, Rat.one_mul]
          congr 1
          omega
        obtain ⟨r, z, m1, m2, m3⟩ := mul_is is_one hw (by rw [hval]; exact hlt)
        rw [hval] at m3
        exact ⟨r, z, m2, m3, fun R k => by rw [hgo, htail, if_neg c1, if_neg c3, hend _ _ R k (by omega) (by omega), bindF_eq m1]⟩
end Go.Vm
