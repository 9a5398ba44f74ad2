/- A part of the evaluator and of what is told of floats; no conditions. The code of logarithms and angles computes just what is told of them; no conditions. What stands in the place of hot functions, listed; no conditions. The code of elements' speeds and of sines computes just what is told of them; no conditions. What functions without a body answer; no conditions. The program's small functions compute what the Lean functions tell; no conditions. The program's ChartGroup computes what the Lean function tells; no conditions. A call of ChartGroup returns true and leaves alone what was there; no conditions. The program's functions of packages math and roots compute what the Lean functions tell; no conditions. The program's functions of ChartThree compute what the Lean functions tell; no conditions. -/
import Derived.Test.YtnbpfafngidimaaGreatVmLP
import Derived.Test.YtnbpfafngidimaaGreatVmP29
import Derived.Test.YtnbpfafngidimaaGreatVmP7
import Derived.Test.YtnbpfafngidimaaGreatVmP1
import Derived.Test.YtnbpfafngidimaaGreatVmM
import Derived.Test.YtnbpfafngidimaaGreatProg
namespace Go.Vm
set_option linter.unusedVariables false
set_option linter.unusedSimpArgs false

/-! ### Great lists: how they are read and written -/
abbrev GC := ∀ R : Type, List Value → Nat → (Nat → Nat → Option R) → Option R
abbrev GF := ∀ R : Type, List Value → Nat → (Nat → Option R) → Option R
abbrev GI := ∀ R : Type, List Value → Nat → (Int → Option R) → Option R
abbrev GII := ∀ R : Type, List Value → Nat → (Int → Int → Option R) → Option R
abbrev GEl := ∀ R : Type, List Value → Nat → (Int → Nat → Nat → Nat → Nat → Nat → Option R) → Option R
def gI (kk : IntKind) (g : GI) : Ld := fun R cs off k => g R cs off fun n => k (.int kk n)
def elV (kind : Int) (a1 a2 s1 s2 p : Nat) : Value := .agg ⟨[.int .u8 kind, .complex .f64 a1 a2, .complex .f64 s1 s2, .float .f64 p]⟩
def gEl (g : GEl) : Ld := fun R cs off k => g R cs off fun kind a1 a2 s1 s2 p => k (elV kind a1 a2 s1 s2 p)
/- the real ones -/
def rC : GC := fun R cs off k => match cs[off]? with | some (.complex .f64 a b) => k a b | _ => none
def rF : GF := fun R cs off k => match cs[off]? with | some (.float .f64 a) => k a | _ => none
def rI (kk : IntKind) : GI := fun R cs off k => match cs[off]? with | some (.int kk' n) => bif decide (kk' = kk) then k n else none | _ => none
def rII (kk : IntKind) : GII := fun R cs off k => match cs.drop off with | .int k1 m :: .int k2 n :: _ => bif decide (k1 = kk) && decide (k2 = kk) then k m n else none | _ => none
def rEl : GEl := fun R cs off k => match cs.drop off with | .int .u8 kind :: .complex .f64 a1 a2 :: .complex .f64 s1 s2 :: .float .f64 p :: _ => k kind a1 a2 s1 s2 p | _ => none
def OneCell (P : Program) (t : TypeId) : Prop := ∀ (R : Type) (cs : List Value) (off : Nat) (k : Value → Option R), loadE P t cs off k = (cs[off]?).bind k
def MoreCells (P : Program) (t : TypeId) (n : Nat) : Prop := ∀ (R : Type) (cs : List Value) (off : Nat) (k : Value → Option R), loadE P t cs off k = bif Nat.ble (off + n) cs.length && true then k (.agg ⟨(cs.drop off).take n⟩) else none
theorem ldI_ok {P : Program} {t : TypeId} {kk : IntKind} (h : OneCell P t) : LdOk P t (gI kk (rI kk)) := fun R cs off k r hr => by
  unfold gI rI at hr
  split at hr
  · rename_i k1 n hc
    by_cases hk : k1 = kk
    · rw [decide_eq_true hk] at hr
      subst hk
      exact ⟨_, hr, fun R' k' => by rw [h, hc]; rfl⟩
    · rw [decide_eq_false hk] at hr; cases hr
  · cases hr
theorem more_len {cs l r : List Value} {off : Nat} (hc : cs.drop off = l ++ r) (hne : 0 < l.length) : Nat.ble (off + l.length) cs.length = true ∧ (cs.drop off).take l.length = l := by
  have h1 := congrArg List.length hc
  rw [List.length_drop, List.length_append] at h1
  refine ⟨ble_eq_of (by omega), ?_⟩
  rw [hc, List.take_left]
theorem ldEl_ok {P : Program} {t : TypeId} (h : MoreCells P t 4) : LdOk P t (gEl rEl) := fun R cs off k r hr => by
  unfold gEl rEl at hr
  split at hr
  · rename_i kind a1 a2 s1 s2 p rest hc
    obtain ⟨g1, g2⟩ := more_len (l := [.int .u8 kind, .complex .f64 a1 a2, .complex .f64 s1 s2, .float .f64 p]) (r := rest) hc (by simp)
    refine ⟨_, hr, fun R' k' => ?_⟩
    simp only [List.length_cons, List.length_nil] at g1 g2
    rw [h, g1, g2]; rfl
  · cases hr
def rSt : St := fun R cs off vs k => bif Nat.ble (off + vs.length) cs.length then k (splice cs off vs) else none
theorem rSt_ok : StOk rSt := fun R cs off vs k r h => by
  unfold rSt at h
  cases hb : Nat.ble (off + vs.length) cs.length with
  | false => rw [hb] at h; cases h
  | true => rw [hb] at h; rw [Nat.ble_eq] at hb; exact ⟨hb, h⟩
def rAp (P : Program) : Ap := fun R t cs n c cx off m k =>
  match P.underlying t with
  | some (.slice e) =>
    match P.info? e with
    | some i =>
      match i.zero with
      | some z =>
        bif Nat.blt 0 i.size && Nat.beq z.cells.size i.size && Nat.beq c n && Nat.blt 0 m && Nat.ble ((n + m) * i.bytes) 140737488355328 && Nat.ble (n + m) 1099511627776 && Nat.beq cs.length (n * i.size) && Nat.beq ((cx.drop off).take (m * i.size)).length (m * i.size) && allOne ((cx.drop off).take (m * i.size)) then
          k (cs ++ (cx.drop off).take (m * i.size))
        else none
      | none => none
    | none => none
  | _ => none
theorem rAp_ok (P : Program) : ApOk P (rAp P) := fun R t cs n c cx off m k r h => by
  unfold rAp at h
  split at h
  case h_2 => cases h
  rename_i e hu
  split at h
  case h_2 => cases h
  rename_i i hi
  split at h
  case h_2 => cases h
  rename_i z hz
  cases hb : (Nat.blt 0 i.size && Nat.beq z.cells.size i.size && Nat.beq c n && Nat.blt 0 m && Nat.ble ((n + m) * i.bytes) 140737488355328 && Nat.ble (n + m) 1099511627776 && Nat.beq cs.length (n * i.size) && Nat.beq ((cx.drop off).take (m * i.size)).length (m * i.size) && allOne ((cx.drop off).take (m * i.size))) with
  | false => rw [hb] at h; cases h
  | true =>
    rw [hb] at h
    simp only [Bool.and_eq_true] at hb
    obtain ⟨⟨⟨⟨⟨⟨⟨⟨b1, b2⟩, b3⟩, b4⟩, b5⟩, b6⟩, b7⟩, b8⟩, b9⟩ := hb
    rw [Nat.blt_eq] at b1 b4
    rw [Nat.ble_eq] at b5 b6
    exact ⟨e, i, z, hu, hi, hz, b1, Nat.eq_of_beq_eq_true b2, Nat.eq_of_beq_eq_true b3, b4, b5, b6, Nat.eq_of_beq_eq_true b7, Nat.eq_of_beq_eq_true b8, b9, h⟩
def ltab : List (Nat × Ld) → TypeId → Option Ld
  | [], _ => none
  | (n, s) :: r, f => bif Nat.beq n f then some s else ltab r f
def mtab : List (Nat × MSum) → FuncId → Option MSum
  | [], _ => none
  | (n, s) :: r, f => bif Nat.beq n f then some s else mtab r f
inductive LdsOk (P : Program) : List (Nat × Ld) → Prop
  | nil : LdsOk P []
  | cons {t : Nat} {g : Ld} {r : List (Nat × Ld)} (h : LdOk P t g) (hs : LdsOk P r) : LdsOk P ((t, g) :: r)
theorem lds_ok {P : Program} {t : Nat} {g : Ld} : ∀ {l : List (Nat × Ld)}, LdsOk P l → ltab l t = some g → LdOk P t g
  | _, .nil, h => by cases h
  | (u, s) :: r, .cons h hs, hg => by
    unfold ltab at hg
    cases hb : Nat.beq u t with
    | true =>
      rw [hb] at hg
      cases hg
      have := Nat.eq_of_beq_eq_true hb
      subst this
      exact h
    | false => rw [hb] at hg; exact lds_ok hs hg
/-- below lim the lists are great -/
def mmOf (lim : Nat → Bool) (ld : List (Nat × Ld)) (st : St) (ap : Ap) : Mm := ⟨lim, ltab ld, st, ap⟩
theorem mmOf_ok {P : Program} {lim : Nat → Bool} {ld : List (Nat × Ld)} (h : LdsOk P ld) : (mmOf lim ld rSt (rAp P)).Ok P := ⟨fun t g hg => lds_ok h hg, rSt_ok, rAp_ok P⟩
inductive GsOk (P : Program) : List (Nat × HSum) → Prop
  | nil : GsOk P []
  | cons {f : Nat} {g : HSum} {r : List (Nat × HSum)} (h : HSumOk P f g) (hf : Has P f) (hs : GsOk P r) : GsOk P ((f, g) :: r)
theorem gs_ok {P : Program} {f : Nat} {g : HSum} : ∀ {l : List (Nat × HSum)}, GsOk P l → gtab l f = some g → HSumOk P f g ∧ Has P f
  | _, .nil, h => by cases h
  | (u, s) :: r, .cons h hf hs, hg => by
    unfold gtab at hg
    cases hb : Nat.beq u f with
    | true =>
      rw [hb] at hg
      cases hg
      have := Nat.eq_of_beq_eq_true hb
      subst this
      exact ⟨h, hf⟩
    | false => rw [hb] at hg; exact gs_ok hs hg
inductive MsOk (P : Program) : List (Nat × MSum) → Prop
  | nil : MsOk P []
  | cons {f : Nat} {g : MSum} {r : List (Nat × MSum)} (h : MSumOk P f g) (hf : Has P f) (hs : MsOk P r) : MsOk P ((f, g) :: r)
theorem ms_ok {P : Program} {f : Nat} {g : MSum} : ∀ {l : List (Nat × MSum)}, MsOk P l → mtab l f = some g → MSumOk P f g ∧ Has P f
  | _, .nil, h => by cases h
  | (u, s) :: r, .cons h hf hs, hg => by
    unfold mtab at hg
    cases hb : Nat.beq u f with
    | true =>
      rw [hb] at hg
      cases hg
      have := Nat.eq_of_beq_eq_true hb
      subst this
      exact ⟨h, hf⟩
    | false => rw [hb] at hg; exact ms_ok hs hg
/-- the context of functions that go over great lists -/
def cxM (fi : Fi) (P : Program) (meths : TypeId → String → Option FuncId) (l es : List (Nat × Sum)) (gl : List (Nat × HSum)) (ml : List (Nat × MSum)) (M : Mm) : Cx :=
  { P := P, sums := tab l, exts := tab es, meths := meths, wild := fun _ => false, fi := fi, nn := false, nan1 := fun _ => false, defs := fun _ => false, hs := fun _ _ _ => none, gs := gtab gl, mg := mtab ml, mm := some M }
theorem cxM_ok {P : Program} {meths : TypeId → String → Option FuncId} (hm : ∀ t s f, meths t s = some f → ∀ v w, (method (P.types.size + Made.depth) t v s).run P w = .ok (f, v) w) {l es : List (Nat × Sum)} (hl : AllOk P l) (he : ∀ f g, tab es f = some g → ExtOk P f g)
    {gl : List (Nat × HSum)} (hg : GsOk P gl) {ml : List (Nat × MSum)} (hml : MsOk P ml) {M : Mm} (hM : M.Ok P) : (cxM fiReal P meths l es gl ml M).Ok where
  fair := fiReal_fair
  sums := fun f g hg => tab_ok hl f g hg
  exts := he
  meths := hm
  hs := fun f args H v h => by cases h
  nan1 := fun f hf => by cases hf
  gs := fun f g h => gs_ok hg h
  ms := fun f args H p h => by cases h
  mg := fun f g h => ms_ok hml h
  mm := fun M' h => by cases h; exact hM
/-- a loop's code, and what is left of a code behind -/
def seqN : Nat → Code → Code
  | 0, c => c
  | n + 1, c => seqN n (seqB c)
end Go.Vm
namespace Go.Vm
set_option linter.unusedVariables false
set_option linter.unusedSimpArgs false

/-! ### Loops of a function, told one by one -/
def oldIn (lo : Nat) (bo : List Nat) : Objs → Bool
  | [] => true
  | (k, _) :: r => (Nat.ble lo k || bo.contains k) && oldIn lo bo r
theorem oldIn_mem {lo k : Nat} {bo : List Nat} {o : AObj} : ∀ {O : Objs}, oldIn lo bo O = true → (k, o) ∈ O → k < lo → k ∈ bo
  | [], _, h, _ => by simp at h
  | (j, u) :: r, g, h, hk => by
    simp only [oldIn, Bool.and_eq_true, Bool.or_eq_true, Nat.ble_eq, List.contains_iff_mem] at g
    rcases List.mem_cons.1 h with e | h
    · cases e
      rcases g.1 with g | g
      · omega
      · exact g
    · exact oldIn_mem g.2 h hk
theorem look_of_mem {k : Nat} {o : AObj} : ∀ {S : Objs}, (k, o) ∈ S → ∃ o', look k S = some o'
  | [], h => by simp at h
  | (j, u) :: r, h => by
    unfold look
    cases hb : Nat.beq j k with
    | true => exact ⟨u, rfl⟩
    | false =>
      rcases List.mem_cons.1 h with e | h
      · cases e; simp at hb
      · exact look_of_mem h
theorem takeO_of {k : Nat} {o : AObj} {O : Objs} (hl : look k O = some o) : ∀ {bo : List Nat}, k ∈ bo → (k, o) ∈ takeO bo O
  | [], h => by simp at h
  | b :: r, h => by
    unfold takeO
    rcases List.mem_cons.1 h with rfl | h
    · rw [hl]; exact List.mem_cons_self
    · split
      · exact List.mem_cons_of_mem _ (takeO_of hl h)
      · exact takeO_of hl h
/-- names and objects that a loop needs -/
def slimL (ts bo : List Nat) (L : Hand) : Hand := fun R lo sz a e H k => bif oldIn lo bo H.objs then L R lo sz a (takeE ts e) ⟨H.next, takeO bo H.objs⟩ k else none
theorem slimL_ok {P : Program} {ts bo : List Nat} {L : Hand} {a : Code} (h : LOk P L a) : LOk P (slimL ts bo L) a := fun R lo sz e H k r hr => by
  unfold slimL at hr
  cases hb : oldIn lo bo H.objs with
  | false => rw [hb] at hr; cases hr
  | true =>
    rw [hb] at hr
    obtain ⟨ex, e', H', g1, g2⟩ := h R lo sz _ _ k r hr
    refine ⟨ex, e', H', g1, fun {ρ w act} hi hlo he hs Q hQ => ?_⟩
    refine g2 (hi.sub fun x hx => takeO_mem hx) hlo (fun t v hv => he t v (getE_take hv)) hs Q fun ρ' a' w' m1 m2 m3 m4 => hQ ρ' a' w' (m1.sup (fun x hx => takeO_mem hx) fun k o hk hm => ?_) m2 m3 m4
    obtain ⟨o', ho'⟩ := look_of_mem hm
    have := hi.one k o o' hm (look_mem ho')
    subst this
    exact takeO_of ho' (oldIn_mem hb hm hk)
/-- by a name that one of them alone has -/
def orL (t : Nat) (A B : Hand) : Hand := fun R lo sz a e H k => match getE t e with
  | some _ => A R lo sz a e H k
  | none => B R lo sz a e H k
theorem noL_ok {P : Program} {a : Code} : LOk P noL a := fun R lo sz e H k r h => by cases h

/-- a loop that is told as a whole -/
noncomputable def told (P : Program) (ex : Ex) (e' : Env) (H' : AH) : Hand := fun R lo sz a e H k =>
  open Classical in if CodeOk P lo sz e H ex e' H' (fun Q act w => Code.wp P (.loop a) Q act w) then k ex e' H' else none
theorem told_ok (P : Program) (ex : Ex) (e' : Env) (H' : AH) (a : Code) : LOk P (told P ex e' H') a := fun R lo sz e H k r h => by
  unfold told at h
  split at h
  · rename_i hc
    exact ⟨ex, e', H', h, hc⟩
  · cases h
theorem told_eq {P : Program} {ex : Ex} {e' : Env} {H' : AH} {lo sz : Nat} {a : Code} {e : Env} {H : AH} (h : CodeOk P lo sz e H ex e' H' (fun Q act w => Code.wp P (.loop a) Q act w)) (R : Type) (k : Ex → Env → AH → Option R) :
    told P ex e' H' R lo sz a e H k = k ex e' H' := by
  unfold told
  exact if_pos @h

/-! ### Functions -/
theorem fun_code {C : Cx} (hC : C.Ok) (hmix : C.P.follows .mixedOrders = true) {n lo sz : Nat} {c : Code} {L : Hand} (hL : ∀ a ∈ loopsIn c, LOk C.P L a) {e0 : Env} {H : AH} {ts bo : List Nat} {ex : Ex} {e' : Env} {O : Objs}
    (h : evTop C n L lo sz c e0 H (takeC ts bo fun ex e O => some (ex, e, O)) = some (ex, e', O)) :
    ∃ H', O = takeO bo H'.objs ∧ CodeOk C.P lo sz e0 H ex e' H' (fun Q a w => c.wp C.P Q a w) := by
  obtain ⟨ex1, e1, H1, g1, g2⟩ := evTop_sound hC hmix c (L := L) (n := n) hL _ _ _ _ h
  unfold takeC at g1
  cases g1
  exact ⟨H1, rfl, CodeOk.env @g2 (fun t v h => h) fun t v h => getE_take h⟩
theorem look_take {k : Nat} {o : AObj} {O : Objs} : ∀ {bo : List Nat}, look k (takeO bo O) = some o → look k O = some o
  | [], h => by cases h
  | b :: r, h => by
    unfold takeO at h
    split at h
    · rename_i o' ho
      unfold look at h
      cases hb : Nat.beq b k with
      | true =>
        rw [hb] at h
        cases h
        have := Nat.eq_of_beq_eq_true hb
        subst this
        exact ho
      | false => rw [hb] at h; exact look_take h
    · exact look_take h
theorem resE_take {P : Program} {e : Env} {bo : List Nat} {n : Nat} {H : AH} : ∀ {l : List ResultVar} {vs : List Value}, resE P e ⟨n, takeO bo H.objs⟩ l = some vs → resE P e H l = some vs
  | [], vs, h => h
  | .tmp t :: r, vs, h => by
    simp only [resE] at h
    obtain ⟨v, h1, h2⟩ := bind_some' h
    obtain ⟨us, h3, h4⟩ := bind_some' h2
    simp only [resE, h1, resE_take h3, Option.bind_some]
    exact h4
  | .cell t ty :: r, vs, h => by
    simp only [resE] at h
    obtain ⟨p, h1, h2⟩ := bind_some' h
    split at h2
    · rename_i ad
      split at h2
      · rename_i cs sz hl
        obtain ⟨v, k1, k2⟩ := loadE_sound h2
        obtain ⟨us, h3, h4⟩ := bind_some' k1
        simp only [resE, h1, Option.bind_some, look_take hl]
        unfold loadE at h2 ⊢
        cases hr : isRowB P ty with
        | true =>
          rw [hr] at h2
          simp only [cond_true] at h2 ⊢
          cases hb : (Nat.ble (ad.off + P.cellsOf ty) cs.length && !Nat.beq (P.cellsOf ty) 0) with
          | false => rw [hb] at h2; cases h2
          | true =>
            rw [hb] at h2
            simp only [cond_true] at h2 ⊢
            obtain ⟨us2, q1, q2⟩ := bind_some' h2
            rw [resE_take q1]
            exact q2
        | false =>
          rw [hr] at h2
          simp only [cond_false] at h2 ⊢
          cases hb : (P.underlying ty).isSome with
          | false => rw [hb] at h2; cases h2
          | true =>
            rw [hb] at h2
            simp only [cond_true] at h2 ⊢
            obtain ⟨v2, q0, h5⟩ := bind_some' h2
            obtain ⟨us2, q1, q2⟩ := bind_some' h5
            rw [q0, Option.bind_some, resE_take q1]
            exact q2
      · cases h2
    · cases h2
/-- A FUNCTION'S CALL, told: its answer names nothing -/
theorem fun_flat {C : Cx} (hC : C.Ok) (hmix : C.P.follows .mixedOrders = true) {n : Nat} {f : FuncId} {fn : Func} {c : Code} (hf : C.P.funcs[f]? = some fn) (hb : fn.body = some c) {L : Hand} (hL : ∀ a ∈ loopsIn c, LOk C.P L a)
    {args : List Value} {H : AH} {ts bo : List Nat} {ex : Ex} {e' : Env} {O : Objs} {vs : List Value} (hl : args.length ≤ fn.ntmps)
    (h : evTop C n L H.next fn.ntmps c (enumE 0 args) H (takeC ts bo fun ex e O => some (ex, e, O)) = some (ex, e', O)) (hex : ex = .normal ∨ ex = .ret) (hr : resE C.P e' ⟨0, O⟩ fn.results.toList = some vs) (hfl : flat (oneOf vs) = true) :
    ∀ ρ w args', Inv ρ H w → VRels ρ args args' → Calls C.P f ⟨args'⟩ w fun e w' => e = .returned (oneOf vs) ∧ RowKit.Below w.heap.size w w' := by
  obtain ⟨H', hO, g⟩ := fun_code hC hmix hL h
  rw [hO] at hr
  exact calls_below hf hb hl @g hex (resE_take hr) hfl
/-- .. its answer names what is new -/
theorem fun_mem {C : Cx} (hC : C.Ok) (hmix : C.P.follows .mixedOrders = true) {n : Nat} {f : FuncId} {fn : Func} {c : Code} (hf : C.P.funcs[f]? = some fn) (hb : fn.body = some c) {L : Hand} (hL : ∀ a ∈ loopsIn c, LOk C.P L a)
    {args : List Value} {H : AH} {ts bo : List Nat} {ex : Ex} {e' : Env} {O : Objs} {vs : List Value} (hl : args.length ≤ fn.ntmps)
    (h : evTop C n L H.next fn.ntmps c (enumE 0 args) H (takeC ts bo fun ex e O => some (ex, e, O)) = some (ex, e', O)) (hex : ex = .normal ∨ ex = .ret) (hr : resE C.P e' ⟨0, O⟩ fn.results.toList = some vs) :
    ∃ H', (∀ x, x ∈ O → x ∈ H'.objs) ∧ ∀ ρ w args', Inv ρ H w → VRels ρ args args' → Calls C.P f ⟨args'⟩ w fun e w' => ∃ ρ' v', e = .returned v' ∧ VRel ρ' (oneOf vs) v' ∧ Next H.next ρ H w ρ' H' w' := by
  obtain ⟨H', hO, g⟩ := fun_code hC hmix hL h
  rw [hO] at hr
  exact ⟨H', fun x hx => takeO_mem (by rw [hO] at hx; exact hx), calls_next hf hb hl @g hex (resE_take hr)⟩

/-! ### Contracts of single calls, wherever their arguments lie -/
def FlatCall (P : Program) (f : FuncId) (args : List Value) (H : AH) (v : Value) : Prop :=
  ∀ ρ w args', Inv ρ H w → VRels ρ args args' → Calls P f ⟨args'⟩ w fun e w' => e = .returned v ∧ RowKit.Below w.heap.size w w'
def MemCall (P : Program) (f : FuncId) (args : List Value) (H : AH) (v : Value) (H' : AH) : Prop :=
  ∀ (lo : Nat) (ρ : Map) (w : World) (args' : List Value), Inv ρ H w → lo ≤ H.next → VRels ρ args args' → Calls P f ⟨args'⟩ w fun e w' => ∃ ρ' v', e = .returned v' ∧ VRel ρ' v v' ∧ Next lo ρ H w ρ' H' w'
theorem FlatCall.sup {P : Program} {f : FuncId} {args : List Value} {H : AH} {O : Objs} {v : Value} (h : FlatCall P f args ⟨H.next, O⟩ v) (hO : ∀ x, x ∈ O → x ∈ H.objs) : FlatCall P f args H v :=
  fun ρ w args' hi ha => h ρ w args' (hi.sub hO) ha
def only (b : Nat) (k : Nat) : Option Nat := bif Nat.beq k 0 then some b else none
theorem only_some {b j k : Nat} (h : only b j = some k) : j = 0 ∧ k = b := by
  unfold only at h
  cases hb : Nat.beq j 0 with
  | true => rw [hb] at h; cases h; exact ⟨Nat.eq_of_beq_eq_true hb, rfl⟩
  | false => rw [hb] at h; cases h
theorem within_only {b : Nat} {cs : List Value} {sz : Nat} {H : AH} (hf : inns 0 cs = true) (hm : (b, .cells cs sz) ∈ H.objs) : Within (only b) ⟨1, [(0, .cells cs sz)]⟩ H where
  obj := fun j o h => by
    simp only [List.mem_singleton, Prod.mk.injEq] at h
    obtain ⟨rfl, rfl⟩ := h
    exact ⟨b, .cells cs sz, rfl, by simp [renO, rens_flat hf], hm⟩
  lt := fun j o h => by
    simp only [List.mem_singleton, Prod.mk.injEq] at h
    show j < 1
    omega
  one := fun j o o' h1 h2 => by
    simp only [List.mem_singleton, Prod.mk.injEq] at h1 h2
    rw [h1.2, h2.2]
  inj := fun j j' k h1 h2 => by rw [(only_some h1).1, (only_some h2).1]
  dom := fun j k h => by rw [(only_some h).1]; exact Nat.zero_lt_one
/-- of one list that names nothing -/
theorem FlatCall.one {P : Program} {f : FuncId} {argsc args : List Value} {H : AH} {b sz : Nat} {cs : List Value} {v : Value} (h : FlatCall P f argsc ⟨1, [(0, .cells cs sz)]⟩ v) (hf : inns 0 cs = true) (hm : (b, .cells cs sz) ∈ H.objs) (ha : renL (only b) argsc = some args) : FlatCall P f args H v :=
  calls_pull (within_only hf hm) ha h
/-- told at once that a call answers this -/
abbrev HT := ∀ R : Type, List Value → AH → Option R → Option R
def saysV (v : Value) (g : HT) : HSum := fun R args H k => g R args H (k v)
noncomputable def saysR (P : Program) (f : FuncId) (v : Value) : HT := fun R args H k =>
  letI := Classical.propDecidable
  if FlatCall P f args H v then k else none
theorem says_ok {P : Program} {f : FuncId} {v : Value} (hv : flat v = true) : HSumOk P f (saysV v (saysR P f v)) := fun R args H k r h => by
  unfold saysV saysR at h
  split at h
  · rename_i hc; exact ⟨v, h, hv, hc⟩
  · cases h
theorem says_eq {P : Program} {f : FuncId} {v : Value} {R : Type} {args : List Value} {H : AH} {k : Option R} (h : FlatCall P f args H v) : saysR P f v R args H k = k := by
  unfold saysR; exact if_pos h
/-- a call that leaves one list that names nothing -/
abbrev MT := ∀ R : Type, List Value → AH → (List Value → Option R) → Option R
end Go.Vm
namespace Go.Vm
open Go.Proofs
set_option linter.unusedVariables false
set_option maxRecDepth 1000000

noncomputable def codeOf (n : Nat) : Code := match Tryz.prog.funcs[n]? with
  | none => .skip
  | some fn => match fn.body with
    | some c => c
    | none => .skip
noncomputable def loopNo (c : Code) (n : Nat) : Code := match (loopsIn c)[n]? with | some a => a | none => .skip
/- types of one cell, and of more -/
theorem more66 : MoreCells Tryz.prog 66 4 := fun R cs off k => by kernel_rfl
end Go.Vm
namespace Go.Vm
open Go.Proofs
set_option linter.unusedVariables false
set_option maxRecDepth 1000000
theorem z_pi (R : Type) (k : Value → Option R) : evFn (cx Tryz.prog []) 60 165 [] k = k (.tuple ⟨[.float .f64 4614256656552045848, .float .f64 4368955796522032135]⟩) := by kernel_rfl
theorem z_core (R : Type) t (k : Value → Option R) : evFn (cx Tryz.prog [(165, sPi)]) 60 265 [.float .f64 t] k = coreK R t fun x => k (.float .f64 x) := by kernel_rfl
theorem z_odd (R : Type) t (k : Value → Option R) : evFn (cx Tryz.prog []) 60 273 [.float .f64 t] k = oddK R t fun x => k (.float .f64 x) := by kernel_rfl
theorem z_log (fi : Fi) (g0 gp gm : KFB) (pa : KFFI) (odd : KFF) (R : Type) t (k : Value → Option R) : evFn (cxf fi Tryz.prog [(112, sInf3 g0 gp gm), (55, sNever), (113, sInfW2), (200, sFFI pa), (273, sFF odd)] []) 60 238 [.float .f64 t] k =
  logB fi gp pa odd R t fun x => k (.float .f64 x) := by kernel_rfl
theorem z_sign (fi : Fi) (R : Type) t (k : Value → Option R) : evFn (cxf fi Tryz.prog [] []) 60 249 [.float .f64 t] k = signB fi R t fun t => k (.bool t) := by kernel_rfl
theorem z_minus (sg : KFB) (R : Type) t (k : Value → Option R) : evFn (cx Tryz.prog [(249, sFB sg)]) 60 266 [.float .f64 t] k = minusB sg R t fun t => k (.bool t) := by kernel_rfl
theorem z_signed (mi : KFB) (ab : KFF) (R : Type) a b (k : Value → Option R) : evFn (cx Tryz.prog [(266, sFB mi), (53, sFF ab)]) 60 267 [.float .f64 a, .float .f64 b] k = signedB mi ab R a b fun x => k (.float .f64 x) := by kernel_rfl
theorem z_angle (ab : KFF) (g0 gp gm : KFB) (core : KFF) (mi : KFB) (sd : KFFF) (R : Type) a b (k : Value → Option R) :
  evFn (cx Tryz.prog [(53, sFF ab), (112, sInf3 g0 gp gm), (165, sPi), (265, sFF core), (266, sFB mi), (267, sFFF sd), (55, sNever)]) 60 233 [.float .f64 a, .float .f64 b] k = angleB ab gp core mi sd R a b fun x => k (.float .f64 x) := by kernel_rfl
theorem z_powLog (len : KCF) (lg : KFF) (an : KFFF) (R : Type) a b (k : Value → Option R) : evFn (cx Tryz.prog [(38, sCF len), (238, sFF lg), (233, sFFF an)]) 60 189 [.complex .f64 a b] k = powLogB len lg an R a b fun x y => k (.complex .f64 x y) := by kernel_rfl
end Go.Vm
namespace Go.Vm
open Go.Proofs
set_option linter.unusedVariables false

/-! ### What stands in the place of hot functions -/
def checkK : KEI := checkB placeK withinK noughtK wh1
def spSK : ∀ R : Type, Nat → Nat → Nat → Nat → Nat → Nat → (Int → Option R) → (Nat → Nat → Option R) → Option R := spS checkK placeK noughtK FiniteK subK
def spOK : ∀ R : Type, Nat → Nat → Nat → Nat → Nat → Nat → (Int → Option R) → (Nat → Nat → Option R) → Option R := spO checkK placeK noughtK FiniteK subK divK sclK
def spDK : ∀ R : Type, Nat → Nat → Nat → Nat → Nat → Nat → (Int → Option R) → (Nat → Nat → Option R) → Option R := spD checkK placeK noughtK FiniteK subK divK mulK sclK
/-- the hot ones -/
def hot : List (Nat × Sum) := [(199, sEI checkK), (217, sSp spSK spOK spDK), (258, sFF2 stepsK), (243, sCB placeK), (244, sCB noughtK), (245, sWh1), (221, sW2 mulK), (53, sFF absK), (22, sCCC mulK), (84, sCCC addK), (21, sCCC subK), (80, sFFB withinK), (135, sCFB WithinK), (141, sFB finiteK), (93, sCB FiniteK), (179, sCCC divK), (81, sCB noughtK), (86, sCC negK),
  (79, sCB placeK), (23, sCCB LikeK), (87, sFFB likeK), (112, sInf3 isInfK isInfPK isInfMK), (113, sInfW2), (114, sFB isNanK), (275, sFFI normK), (260, sFFI frexpK), (229, sFFI frexpK), (200, sFFI frexpK), (77, sFFF copyK),
  (247, sFIF ldexpK), (201, sFIF ldexpK), (117, sFIF scaleK), (115, sCF greatestK), (116, sCCI scaledK), (119, sCF squareK), (118, sFF sqrtK), (38, sCF lengthK), (39, sCFC sclK),
  (165, sPi), (265, sFF coreK), (273, sFF oddK), (238, sFF logK), (249, sFB signK), (266, sFB minusK), (267, sFFF signedK), (233, sFFF angleK), (189, sCC powLogK)]
def methT (t : TypeId) (s : String) : Option FuncId :=
  bif s == "eddy/element.speed" then
    (bif Nat.beq t 261 then some 301 else bif Nat.beq t 263 then some 304 else bif Nat.beq t 265 then some 308 else bif Nat.beq t 267 then some 311 else bif Nat.beq t 268 then some 314 else none)
  else bif s == "eddy/element.potential" then
    (bif Nat.beq t 261 then some 299 else bif Nat.beq t 263 then some 302 else bif Nat.beq t 265 then some 306 else bif Nat.beq t 267 then some 309 else bif Nat.beq t 268 then some 312 else none)
  else bif s == "eddy/element.slope" then
    (bif Nat.beq t 261 then some 300 else bif Nat.beq t 263 then some 303 else bif Nat.beq t 265 then some 307 else bif Nat.beq t 267 then some 310 else bif Nat.beq t 268 then some 313 else none)
  else none
def wildT (f : FuncId) : Bool := Nat.beq f 142
def nanT (f : FuncId) : Bool := Nat.beq f 53
/-- the same without summaries of its own, for equations -/
def cxe (P : Program) (l : List (Nat × Sum)) : Cx := { P := P, sums := tab l, exts := fun _ => none, meths := methT, wild := fun _ => false, fi := fiReal, nn := false, nan1 := fun _ => false, defs := fun _ => false, hs := fun _ _ _ => none }
def extL : List (Nat × Sum) := [(144, xFrom), (145, xBits), (279, xWhole .even), (280, xWhole .zero)]
def cxm (P : Program) (l : List (Nat × Sum)) : Cx := { P := P, sums := tab l, exts := tab extL, meths := methT, wild := wildT, fi := fiReal, nn := true, nan1 := nanT, defs := fun f => Nat.beq f 190, hs := fun _ _ _ => none }
end Go.Vm
namespace Go.Vm
open Go.Proofs
set_option linter.unusedVariables false
set_option maxRecDepth 1000000
theorem z_wh1 (R : Type) (k : Value → Option R) : evFn (cx Tryz.prog []) 60 245 [.float .f64 4607182418800017408] k = k (.bool true) := by kernel_rfl
theorem z_reals (wi : KCFB) (R : Type) a b (k : Value → Option R) : evFn (cx Tryz.prog [(135, sCFB wi)]) 60 243 [.complex .f64 a b] k = placeB wi R a b fun t => k (.bool t) := by kernel_rfl
theorem z_nought2 (R : Type) a b (k : Value → Option R) : evFn (cx Tryz.prog []) 60 244 [.complex .f64 a b] k = noughtK R a b fun t => k (.bool t) := by kernel_rfl
theorem z_echeck (re : KCB) (wi : KFFB) (no : KCB) (wh : KFB) (R : Type) kind a1 a2 s1 s2 p (k : Value → Option R) :
  evFn (cx Tryz.prog [(243, sCB re), (80, sFFB wi), (244, sCB no), (245, sFB wh)]) 60 199 [el kind a1 a2 s1 s2 p] k = checkB re wi no wh R kind a1 a2 s1 s2 p fun e => k (.int .i64 e) := by kernel_rfl
theorem z_whole2 (mul : KCCC) (R : Type) a b (k : Value → Option R) : evFn (cx Tryz.prog [(22, sCCC mul)]) 60 221 [.complex .f64 a b, .int .i64 2] k = mul R a b a b fun x y => k (.complex .f64 x y) := by kernel_rfl
theorem z_spS (re : KCB) (wi : KFFB) (no fin : KCB) (wh : KFB) (sub : KCCC) (R : Type) a1 a2 s1 s2 z1 z2 (k : Value → Option R) :
  evFn (cxe Tryz.prog [(199, sEI (checkB re wi no wh)), (243, sCB re), (244, sCB no), (93, sCB fin), (21, sCCC sub)]) 60 217 [el 1 a1 a2 s1 s2 0, .complex .f64 z1 z2] k =
    spS (checkB re wi no wh) re no fin sub R a1 a2 s1 s2 z1 z2 (vErr k) (zOk k) := by kernel_rfl
theorem z_spO (re : KCB) (wi : KFFB) (no fin : KCB) (wh : KFB) (sub div : KCCC) (scl : KCFC) (R : Type) a1 a2 s1 s2 z1 z2 (k : Value → Option R) :
  evFn (cxe Tryz.prog [(199, sEI (checkB re wi no wh)), (243, sCB re), (244, sCB no), (93, sCB fin), (21, sCCC sub), (179, sCCC div), (39, sCFC scl), (165, sPi)]) 60 217 [el 2 a1 a2 s1 s2 0, .complex .f64 z1 z2] k =
    spO (checkB re wi no wh) re no fin sub div scl R a1 a2 s1 s2 z1 z2 (vErr k) (zOk k) := by kernel_rfl
theorem z_spD (re : KCB) (wi : KFFB) (no fin : KCB) (sub div mul : KCCC) (scl : KCFC) (R : Type) a1 a2 s1 s2 z1 z2 (k : Value → Option R) :
  evFn (cxe Tryz.prog [(199, sEI (checkB re wi no wh1)), (243, sCB re), (244, sCB no), (245, sWh1), (93, sCB fin), (21, sCCC sub), (179, sCCC div), (39, sCFC scl), (221, sW2 mul)]) 60 217 [el 3 a1 a2 s1 s2 4607182418800017408, .complex .f64 z1 z2] k =
    spD (checkB re wi no wh1) re no fin sub div mul scl R a1 a2 s1 s2 z1 z2 (vErr k) (zOk k) := by kernel_rfl
theorem z_steps (R : Type) y (k : Value → Option R) : evFn (cx Tryz.prog []) 60 258 [.float .f64 y] k = stepsK R y fun s c => k (.tuple ⟨[.float .f64 s, .float .f64 c]⟩) := by kernel_rfl
end Go.Vm
namespace Go.Vm
open Go.Proofs
set_option linter.unusedVariables false
set_option maxRecDepth 1000000
theorem run_ext {P : Program} {f : FuncId} {fn : Func} {ext : Array Value → Sem Value} (h1 : P.funcs[f]? = some fn) (h2 : (fn.name == "runtime.NumGoroutine") = false) (h3 : fn.body.isNone = true)
    (h4 : Extern.find fn = some ext) (h5 : (Extern.findNext fn).isNone = true) {args : Array Value} {v : Value} (h6 : ext args = pure v) (w : World) : (callFunc f args).run P w = .ok (.value v) w := by
  have h5' : Extern.findNext fn = none := by simpa using h5
  have h2' : fn.name ≠ "runtime.NumGoroutine" := by simpa using h2
  have h3' : fn.body = none := by simpa using h3
  unfold callFunc
  simp [Sem.run_bind, h1, h2', h3', h4, h5', h6]
theorem e144 : ExtOk Tryz.prog 144 xFrom := by
  intro R args k r hr
  unfold xFrom at hr; split at hr
  · rename_i n
    rw [forceN_eq] at hr
    exact ⟨rfl, _, hr, rfl, fun w => run_ext Tryz.func144 (by kernel_rfl) (by kernel_rfl) (show Extern.find Tryz.f144 = some Extern.MathFloatBits.float64frombits by kernel_rfl) (by kernel_rfl) rfl w⟩
  · cases hr
theorem e145 : ExtOk Tryz.prog 145 xBits := by
  intro R args k r hr
  unfold xBits at hr; split at hr
  · rename_i b
    rw [fiReal_fair] at hr
    exact ⟨rfl, _, hr, rfl, fun w => run_ext Tryz.func145 (by kernel_rfl) (by kernel_rfl) (show Extern.find Tryz.f145 = some Extern.MathFloatBits.float64bits by kernel_rfl) (by kernel_rfl) rfl w⟩
  · cases hr
theorem whole_run {name : String} {way : Ieee.Toward} {x : Nat} {d : Ieee.Datum} (h : Ieee.double.read x = d) (hd : ∀ s t, d ≠ .nan s t) :
    Extern.MathFloor.toIntegral name way #[.float .f64 x] = pure (.float .f64 (Ieee.double.write (d.integral way))) := by
  show (match Ieee.double.read x with | .nan s t => _ | d => pure (Value.float .f64 (Ieee.double.write (d.integral way)))) = _
  rw [h]
  cases d with
  | number s m e => rfl
  | infinity s => rfl
  | nan s t => exact absurd rfl (hd s t)
theorem e279 : ExtOk Tryz.prog 279 (xWhole .even) := by
  intro R args k r hr
  unfold xWhole at hr; split at hr
  · rename_i x
    split at hr
    · cases hr
    · rename_i d hd
      rw [forceN_eq] at hr
      exact ⟨rfl, _, hr, rfl, fun w => run_ext Tryz.func279 (by kernel_rfl) (by kernel_rfl) (show Extern.find Tryz.f279 = some (Extern.MathFloor.toIntegral "math.RoundToEven" .even) by kernel_rfl) (by kernel_rfl) (whole_run rfl hd) w⟩
  · cases hr
theorem e280 : ExtOk Tryz.prog 280 (xWhole .zero) := by
  intro R args k r hr
  unfold xWhole at hr; split at hr
  · rename_i x
    split at hr
    · cases hr
    · rename_i d hd
      rw [forceN_eq] at hr
      exact ⟨rfl, _, hr, rfl, fun w => run_ext Tryz.func280 (by kernel_rfl) (by kernel_rfl) (show Extern.find Tryz.f280 = some (Extern.MathFloor.toIntegral "math.archTrunc" .zero) by kernel_rfl) (by kernel_rfl) (whole_run rfl hd) w⟩
  · cases hr

inductive ExtsOk (P : Program) : List (Nat × Sum) → Prop
  | nil : ExtsOk P []
  | cons {f : Nat} {g : Sum} {r : List (Nat × Sum)} (h : ExtOk P f g) (hr : ExtsOk P r) : ExtsOk P ((f, g) :: r)
theorem exts_ok {P : Program} : ∀ {l : List (Nat × Sum)}, ExtsOk P l → ∀ f g, tab l f = some g → ExtOk P f g
  | _, .nil, f, g, h => by simp [tab] at h
  | _, .cons (f := n) h hr, f, g, h' => by
    unfold tab at h'
    cases hb : Nat.beq n f with
    | true =>
      rw [hb] at h'
      cases h'
      rw [Nat.eq_of_beq_eq_true hb] at h
      exact h
    | false => rw [hb] at h'; exact exts_ok hr f g h'
theorem extL_ok : ExtsOk Tryz.prog extL := .cons e144 (.cons e145 (.cons e279 (.cons e280 .nil)))
end Go.Vm
namespace Go.Vm
open Go.Proofs
set_option linter.unusedVariables false
set_option maxRecDepth 1000000

theorem z_sub (R : Type) a b c d (k : Value → Option R) : evFn (cx Tryz.prog []) 10 21 [.complex .f64 a b, .complex .f64 c d] k = subK R a b c d fun x y => k (.complex .f64 x y) := by kernel_rfl
theorem z_mul (R : Type) a b c d (k : Value → Option R) : evFn (cx Tryz.prog []) 10 22 [.complex .f64 a b, .complex .f64 c d] k = mulK R a b c d fun x y => k (.complex .f64 x y) := by kernel_rfl
theorem z_add (R : Type) a b c d (k : Value → Option R) : evFn (cx Tryz.prog []) 10 84 [.complex .f64 a b, .complex .f64 c d] k = addK R a b c d fun x y => k (.complex .f64 x y) := by kernel_rfl
theorem z_neg (R : Type) a b (k : Value → Option R) : evFn (cx Tryz.prog []) 10 86 [.complex .f64 a b] k = negK R a b fun x y => k (.complex .f64 x y) := by kernel_rfl
theorem z_like (R : Type) a b (k : Value → Option R) : evFn (cx Tryz.prog []) 10 87 [.float .f64 a, .float .f64 b] k = likeK R a b fun t => k (.bool t) := by kernel_rfl
theorem z_Like (lk : KFFB) (R : Type) a b c d (k : Value → Option R) : evFn (cx Tryz.prog [(87, sFFB lk)]) 10 23 [.complex .f64 a b, .complex .f64 c d] k = LikeB lk R a b c d fun t => k (.bool t) := by kernel_rfl
theorem z_nought (R : Type) a b (k : Value → Option R) : evFn (cx Tryz.prog []) 10 81 [.complex .f64 a b] k = noughtK R a b fun t => k (.bool t) := by kernel_rfl
theorem z_abs (R : Type) a (k : Value → Option R) : evFn (cx Tryz.prog []) 10 53 [.float .f64 a] k = absK R a fun t => k (.float .f64 t) := by kernel_rfl
theorem z_within (ab : KFF) (R : Type) a b (k : Value → Option R) : evFn (cx Tryz.prog [(53, sFF ab)]) 10 80 [.float .f64 a, .float .f64 b] k = withinB ab R a b fun t => k (.bool t) := by kernel_rfl
theorem z_Within (wi : KFFB) (R : Type) a b c (k : Value → Option R) : evFn (cx Tryz.prog [(80, sFFB wi)]) 10 135 [.complex .f64 a b, .float .f64 c] k = WithinB wi R a b c fun t => k (.bool t) := by kernel_rfl
theorem z_place (wi : KCFB) (R : Type) a b (k : Value → Option R) : evFn (cx Tryz.prog [(135, sCFB wi)]) 10 79 [.complex .f64 a b] k = placeB wi R a b fun t => k (.bool t) := by kernel_rfl
end Go.Vm
namespace Go.Vm
open Go.Proofs
set_option linter.unusedVariables false
set_option maxRecDepth 1000000

def sTrue : Sum := fun R args k => match args with | [] => k (.bool true) | _ => none
end Go.Vm
namespace Go.Vm
open Go.Proofs
set_option linter.unusedVariables false
set_option linter.unusedSectionVars false
set_option maxRecDepth 1000000

theorem zm_ok : Tryz.prog.follows .mixedOrders = true := by kernel_rfl
theorem h21 : Has Tryz.prog 21 := ⟨Tryz.f21, _, Tryz.func21, by kernel_rfl, rfl⟩
theorem h22 : Has Tryz.prog 22 := ⟨Tryz.f22, _, Tryz.func22, by kernel_rfl, rfl⟩
theorem h23 : Has Tryz.prog 23 := ⟨Tryz.f23, _, Tryz.func23, by kernel_rfl, rfl⟩
theorem h53 : Has Tryz.prog 53 := ⟨Tryz.f53, _, Tryz.func53, by kernel_rfl, rfl⟩
theorem h79 : Has Tryz.prog 79 := ⟨Tryz.f79, _, Tryz.func79, by kernel_rfl, rfl⟩
theorem h80 : Has Tryz.prog 80 := ⟨Tryz.f80, _, Tryz.func80, by kernel_rfl, rfl⟩
theorem h81 : Has Tryz.prog 81 := ⟨Tryz.f81, _, Tryz.func81, by kernel_rfl, rfl⟩
theorem h84 : Has Tryz.prog 84 := ⟨Tryz.f84, _, Tryz.func84, by kernel_rfl, rfl⟩
theorem h86 : Has Tryz.prog 86 := ⟨Tryz.f86, _, Tryz.func86, by kernel_rfl, rfl⟩
theorem h87 : Has Tryz.prog 87 := ⟨Tryz.f87, _, Tryz.func87, by kernel_rfl, rfl⟩
theorem h135 : Has Tryz.prog 135 := ⟨Tryz.f135, _, Tryz.func135, by kernel_rfl, rfl⟩

section shapes
variable {P : Program} {l : List (Nat × Sum)} {n : Nat} {f : FuncId}
end shapes

theorem k21 : SumOk Tryz.prog 21 (sCCC subK) := ok_sCCC zm_ok .nil z_sub
theorem k22 : SumOk Tryz.prog 22 (sCCC mulK) := ok_sCCC zm_ok .nil z_mul
theorem k84 : SumOk Tryz.prog 84 (sCCC addK) := ok_sCCC zm_ok .nil z_add
theorem k86 : SumOk Tryz.prog 86 (sCC negK) := ok_sCC zm_ok .nil z_neg
theorem k87 : SumOk Tryz.prog 87 (sFFB likeK) := ok_sFFB zm_ok .nil z_like
theorem k23 : SumOk Tryz.prog 23 (sCCB LikeK) := ok_sCCB zm_ok (.cons k87 h87 .nil) (z_Like _)
theorem k81 : SumOk Tryz.prog 81 (sCB noughtK) := ok_sCB zm_ok .nil z_nought
theorem k53 : SumOk Tryz.prog 53 (sFF absK) := ok_sFF zm_ok .nil z_abs
theorem k80 : SumOk Tryz.prog 80 (sFFB withinK) := ok_sFFB zm_ok (.cons k53 h53 .nil) (z_within _)
theorem k135 : SumOk Tryz.prog 135 (sCFB WithinK) := ok_sCFB zm_ok (.cons k80 h80 .nil) (z_Within _)
theorem k79 : SumOk Tryz.prog 79 (sCB placeK) := ok_sCB zm_ok (.cons k135 h135 .nil) (z_place _)
end Go.Vm
namespace Go.Vm
open Go.Proofs
set_option linter.unusedVariables false
set_option maxRecDepth 1000000
theorem z_isInf (ab : KFF) (R : Type) a (k : Value → Option R) : evFn (cx Tryz.prog [(53, sFF ab)]) 20 112 [.float .f64 a, .int .i64 0] k = isInfB ab R a fun t => k (.bool t) := by kernel_rfl
theorem z_isNan (R : Type) a (k : Value → Option R) : evFn (cx Tryz.prog []) 20 114 [.float .f64 a] k = isNanK R a fun t => k (.bool t) := by kernel_rfl
theorem z_norm (ab : KFF) (R : Type) a (k : Value → Option R) : evFn (cx Tryz.prog [(53, sFF ab)]) 20 275 [.float .f64 a] k = normB ab R a fun x e => k (.tuple ⟨[.float .f64 x, .int .i64 e]⟩) := by kernel_rfl
theorem z_frexp (fi : Fi) (inf nan : KFB) (nm : KFFI) (R : Type) a (k : Value → Option R) : evFn (cxf fi Tryz.prog [(112, sInf inf), (114, sFB nan), (275, sFFI nm)] []) 30 260 [.float .f64 a] k = frexpB fi inf nan nm R a fun x e => k (.tuple ⟨[.float .f64 x, .int .i64 e]⟩) := by kernel_rfl
theorem z_copy (R : Type) a b (k : Value → Option R) : evFn (cx Tryz.prog []) 30 77 [.float .f64 a, .float .f64 b] k = copyK R a b fun x => k (.float .f64 x) := by kernel_rfl
theorem z_ldexp (fi : Fi) (cp : KFFF) (inf nan : KFB) (nm : KFFI) (R : Type) a n (k : Value → Option R) : evFn (cxf fi Tryz.prog [(112, sInf inf), (114, sFB nan), (275, sFFI nm), (77, sFFF cp), (113, sNever)] []) 30 247 [.float .f64 a, .int .i64 n] k = ldexpB fi cp inf nan nm R a n fun x => k (.float .f64 x) := by kernel_rfl
theorem z_Frexp (fr : KFFI) (R : Type) a (k : Value → Option R) : evFn (cx Tryz.prog [(260, sFFI fr)]) 30 229 [.float .f64 a] k = fr R a fun x e => k (.tuple ⟨[.float .f64 x, .int .i64 e]⟩) := by kernel_rfl
theorem z_Ldexp (ld : KFIF) (R : Type) a n (k : Value → Option R) : evFn (cx Tryz.prog [(247, sFIF ld)]) 30 201 [.float .f64 a, .int .i64 n] k = ld R a n fun x => k (.float .f64 x) := by kernel_rfl
theorem z_Parts (fr : KFFI) (R : Type) a (k : Value → Option R) : evFn (cx Tryz.prog [(229, sFFI fr)]) 30 200 [.float .f64 a] k = fr R a fun x e => k (.tuple ⟨[.float .f64 x, .int .i64 e]⟩) := by kernel_rfl
theorem z_scale (ld : KFIF) (R : Type) a n (k : Value → Option R) : evFn (cx Tryz.prog [(201, sFIF ld)]) 30 117 [.float .f64 a, .int .i64 n] k = scaleB ld R a n fun x => k (.float .f64 x) := by kernel_rfl
theorem z_greatest (ab : KFF) (R : Type) a b (k : Value → Option R) : evFn (cx Tryz.prog [(53, sFF ab)]) 30 115 [.complex .f64 a b] k = greatestB ab R a b fun x => k (.float .f64 x) := by kernel_rfl
theorem z_scaled (gr : KCF) (pa : KFFI) (sc : KFIF) (R : Type) a b (k : Value → Option R) : evFn (cx Tryz.prog [(115, sCF gr), (200, sFFI pa), (117, sFIF sc)]) 30 116 [.complex .f64 a b] k = scaledB gr pa sc R a b fun x y e => k (.tuple ⟨[.complex .f64 x y, .int .i64 e]⟩) := by kernel_rfl
theorem z_square (R : Type) a b (k : Value → Option R) : evFn (cx Tryz.prog []) 30 119 [.complex .f64 a b] k = squareK R a b fun x => k (.float .f64 x) := by kernel_rfl
theorem z_length (inf nan : KFB) (gr : KCF) (sd : KCCI) (sq : KCF) (rt : KFF) (sc : KFIF) (R : Type) a b (k : Value → Option R) : evFn (cx Tryz.prog [(112, sInf inf), (114, sFB nan), (115, sCF gr), (116, sCCI sd), (119, sCF sq), (118, sFF rt), (117, sFIF sc), (113, sNever), (55, sNever)]) 30 38 [.complex .f64 a b] k = lengthB inf nan gr sd sq rt sc R a b fun x => k (.float .f64 x) := by kernel_rfl
theorem z_finite (ab : KFF) (R : Type) a (k : Value → Option R) : evFn (cx Tryz.prog [(53, sFF ab)]) 30 141 [.float .f64 a] k = finiteB ab R a fun t => k (.bool t) := by kernel_rfl
theorem z_Finite (fi : KFB) (R : Type) a b (k : Value → Option R) : evFn (cx Tryz.prog [(141, sFB fi)]) 30 93 [.complex .f64 a b] k = FiniteB fi R a b fun t => k (.bool t) := by kernel_rfl
end Go.Vm
namespace Go.Vm
open Go.Proofs
set_option linter.unusedVariables false
set_option maxRecDepth 1000000
theorem z_div (ab : KFF) (R : Type) a b c d (k : Value → Option R) : evFn (cx Tryz.prog [(53, sFF ab)]) 30 179 [.complex .f64 a b, .complex .f64 c d] k = divB ab R a b c d fun x y => k (.complex .f64 x y) := by kernel_rfl
end Go.Vm
