/- A part of the evaluator and of what is told of floats; no conditions. -/
import Derived.Test.YtnbpfafngidimaaGreatVmUD3
import Derived.Test.YtnbpfafngidimaaGreatVmUBe4
import Derived.Test.YtnbpfafngidimaaGreatVmRD4
namespace Go.Vm
open Go.Proofs
set_option linter.unusedVariables false
set_option linter.unusedSectionVars false
set_option linter.unusedSimpArgs false

/-! ### Linear systems of 3 to 8 unknowns: what solved answers -/
structure Sys (n : Nat) : Prop where
  s : Eqs n
  p : Eqp n
  r : Eqr n
  w : Eqw n
  t : Eqt n
  c : Eqc n
  l : Eql n
theorem sys_all : ∀ n, 3 ≤ n → n ≤ 8 → Sys n
  | 3, _, _ => ⟨eqs_3, eqp_3, eqr_3, eqw_3, eqt_3, eqc_3, eql_3⟩
  | 4, _, _ => ⟨eqs_4, eqp_4, eqr_4, eqw_4, eqt_4, eqc_4, eql_4⟩
  | 5, _, _ => ⟨eqs_5, eqp_5, eqr_5, eqw_5, eqt_5, eqc_5, eql_5⟩
  | 6, _, _ => ⟨eqs_6, eqp_6, eqr_6, eqw_6, eqt_6, eqc_6, eql_6⟩
  | 7, _, _ => ⟨eqs_7, eqp_7, eqr_7, eqw_7, eqt_7, eqc_7, eql_7⟩
  | 8, _, _ => ⟨eqs_8, eqp_8, eqr_8, eqw_8, eqt_8, eqc_8, eql_8⟩
  | 0, h, _ => absurd h (by omega)
  | 1, h, _ => absurd h (by omega)
  | 2, h, _ => absurd h (by omega)
  | n + 9, _, h => absurd h (by omega)
theorem Le.gd {B : Rat} {w : Nat} (h : Le B w) : gd w = true := by
  have := finiteK_yes (vl_is h.1) (R := Bool) some
  unfold finiteK finiteB absK at this
  have h2 : forceB (leF (absW w) 9218868437227405311) (fun t => some t) = some true := this
  rw [forceB_eq] at h2
  exact Option.some.inj h2
/-- what is found, if all is well -/
def Found (n : Nat) (W0 : Nat → Nat → Nat) : Prop := (∀ c, c < n → vl (Wc n W0 c (pvc n W0 c) c) ≠ 0) ∧ ∀ k, k < n → okX (bX n (Wc n W0 n) n k)
section
variable {n : Nat} (S : Sys n) {A : Nat → Nat → Nat} {bv : Nat → Nat} {B0 D0 : Rat} (hB : ∀ r j, r < n → j < n → Le B0 (W0f n A bv r j)) (hD : ∀ r, r < n → Le D0 (W0f n A bv r n)) (hn : n ≤ 8) (tB : tau ≤ B0) (tD : tau ≤ D0) (bB : B0 * 300 ≤ (2 : Rat) ^ (300 : Int)) (bD : D0 * 300 ≤ (2 : Rat) ^ (300 : Int))
  (ca cb sA sr sb : Nat)
include S hB hD hn tB tD bB bD
theorem solved_all : (Found n (W0f n A bv) ∧ SmallCall Tryz.prog 214 (stArgs n ca cb) (inO n A bv sA sr sb) (xsV n) ⟨n + 2 + 7 + n, (n + 2 + 6 + n, .cells (upTo (valX (bX n (Wc n (W0f n A bv) n) n)) 0 n) 0) :: oldO (n + 2) (ooS n A bv sA sr sb)⟩) ∨
    (¬ Found n (W0f n A bv) ∧ ∃ N, n + 2 ≤ N ∧ SmallCall Tryz.prog 214 (stArgs n ca cb) (inO n A bv sA sr sb) noX ⟨N, oldO (n + 2) (ooS n A bv sA sr sb)⟩) := by
  have gA : ∀ r j, r < n → j < n → gd (A r j) = true := fun r j h1 h2 => by
    have := (hB r j h1 h2).gd
    unfold W0f at this
    rw [beq_ne (show j ≠ n by omega)] at this
    exact this
  have gb : ∀ r, r < n → gd (bv r) = true := fun r h1 => by
    have := (hD r h1).gd
    unfold W0f at this
    rw [show Nat.beq n n = true by simp] at this
    exact this
  rcases first_nought (fun c => vl (Wc n (W0f n A bv) c (pvc n (W0f n A bv) c) c) ≠ 0) n with h | ⟨l, h1, h2, h3⟩
  · have hs := steps_lift S.l (steps_full hB hD hn tB tD bB bD S.s S.p S.r (ca := ca) (cb := cb) (sA := sA) (sr := sr) (sb := sb) h)
    rcases first_nought (fun k => okX (bX n (Wc n (W0f n A bv) n) n k)) n with g | ⟨k, g1, g2, g3⟩
    · exact .inl ⟨⟨h, g⟩, solved_good S.c S.w S.t gA gb rfl hs g⟩
    · exact .inr ⟨fun f => g2 (f.2 k g1), _, by omega, solved_inf S.c S.w S.t gA gb rfl hs g1 g3 g2⟩
  · have h0 : vl (Wc n (W0f n A bv) l (pvc n (W0f n A bv) l) l) = 0 := by
      rcases Classical.em (vl (Wc n (W0f n A bv) l (pvc n (W0f n A bv) l) l) = 0) with q | q
      · exact q
      · exact absurd q h2
    have hs := steps_lift_bad S.l (steps_bad hB hD hn tB tD bB bD S.s S.p S.r (ca := ca) (cb := cb) (sA := sA) (sr := sr) (sb := sb) h1 h3 h0)
    exact .inr ⟨fun f => h2 (f.1 l h1), _, by omega, solved_bad S.c S.w S.t gA gb hs⟩
end
/-! ### .. seen from where it is called -/
abbrev KSv := ∀ R : Type, List Value → AH → Option R → ((Nat → Nat) → Option R) → Option R
def xsA (N n : Nat) (xs : Nat → Nat) : Objs := [(N, .cells (upTo (fun i => fl (xs i)) 0 n) 0)]
noncomputable def svT (n : Nat) (res : Option (Nat → Nat)) : KSv := fun R args H kb kf =>
  open Classical in match res with
  | none => if MemCall Tryz.prog 214 args H noX ⟨H.next, H.objs⟩ then kb else none
  | some xs => if MemCall Tryz.prog 214 args H (.tuple ⟨[sliceV H.next n n, .int .i64 0]⟩) ⟨H.next + 1, xsA H.next n xs ++ H.objs⟩ then kf xs else none
theorem h214 : Has Tryz.prog 214 := ⟨Tryz.f214, _, Tryz.func214, by kernel_rfl, rfl⟩
open Classical in
/-- what solved finds -/
noncomputable def solR (n : Nat) (W0 : Nat → Nat → Nat) : Option (Nat → Nat) := if Found n W0 then some (wordX (bX n (Wc n W0 n) n)) else none
section
variable {n : Nat} (S : Sys n) {A : Nat → Nat → Nat} {bv : Nat → Nat} {B0 D0 : Rat} (hB : ∀ r j, r < n → j < n → Le B0 (W0f n A bv r j)) (hD : ∀ r, r < n → Le D0 (W0f n A bv r n)) (hn : n ≤ 8) (tB : tau ≤ B0) (tD : tau ≤ D0) (bB : B0 * 300 ≤ (2 : Rat) ^ (300 : Int)) (bD : D0 * 300 ≤ (2 : Rat) ^ (300 : Int))
  {ca cb sA sr sb : Nat} {q : Nat → Option Nat} {H : AH} (hq : Within q (inO n A bv sA sr sb) H) {args : List Value} (ha : renL q (stArgs n ca cb) = some args)
include S hB hD hn tB tD bB bD hq ha
theorem solved_told {R : Type} (kb : Option R) (kf : (Nat → Nat) → Option R) : svT n (solR n (W0f n A bv)) R args H kb kf = (match solR n (W0f n A bv) with
    | none => kb
    | some xs => kf xs) := by
  unfold solR
  rcases solved_all S hB hD hn tB tD bB bD ca cb sA sr sb with ⟨f, h⟩ | ⟨f, N, hN, h⟩
  · rw [if_pos f]
    refine if_pos ?_
    have hx : upTo (valX (bX n (Wc n (W0f n A bv) n) n)) 0 n = upTo (fun i => fl (wordX (bX n (Wc n (W0f n A bv) n) n) i)) 0 n := upTo_congr fun k _ hk => by
      obtain ⟨w, e, _⟩ := f.2 k (by omega)
      unfold valX wordX
      rw [e]
      rfl
    rw [hx] at h
    have hf : ∀ (f : Nat → Nat) (p : Nat → Option Nat) (m i : Nat), renL p (upTo (fun i => fl (f i)) i m) = some (upTo (fun i => fl (f i)) i m) := fun f p m => by
      induction m with
      | zero => intro i; rfl
      | succ m ih => intro i; simp only [upTo, renL, ih]; rfl
    have hp : placeIn [n + 2 + 6 + n] H.next (n + 2 + 6 + n) = some H.next := by
      unfold placeIn
      rw [show Nat.beq (n + 2 + 6 + n) (n + 2 + 6 + n) = true by simp]
      rfl
    have hb : Nat.blt (n + 2 + 6 + n) (n + 2) = false := blt_false (by omega)
    refine calls_lift (bs := [n + 2 + 6 + n]) (A := xsA H.next n (wordX (bX n (Wc n (W0f n A bv) n) n))) hq ha ?_ (fun k o2 hm => ?_) (fun j hj => ?_) h
    · have hc : placeC q (inO n A bv sA sr sb).next H.next [n + 2 + 6 + n] (n + 2 + 6 + n) = some H.next := by
        unfold placeC
        show (bif Nat.blt (n + 2 + 6 + n) (n + 2) then _ else _) = _
        rw [hb]
        exact hp
      simp [xsV, sliceV, renV, renA, renL, hc]
    · simp only [xsA, List.mem_cons, List.not_mem_nil, or_false] at hm
      cases hm
      exact ⟨_, _, List.mem_cons_self, hp, by show (renL _ _).bind _ = _; rw [hf]; rfl⟩
    · simp only [List.mem_cons, List.not_mem_nil, or_false] at hj
      show n + 2 ≤ j
      omega
  · rw [if_neg f]
    refine if_pos ?_
    exact calls_lift (bs := []) (A := []) hq ha rfl (fun k o2 hm => by simp at hm) (fun j hj => by simp at hj) h
end
end Go.Vm
namespace Go.Vm
open Go.Proofs
set_option linter.unusedVariables false
set_option linter.unusedSectionVars false
set_option linter.unusedSimpArgs false
set_option maxRecDepth 1000000

/-! ### panel.Solve: what stands in the place of what is called -/
abbrev KAsk := ∀ R : Type, List Value → AH → ((Nat → Pn) → (Nat → Un) → Option R) → Option R
/-- what is told of a call: so many blocks, and those of these names -/
def seeH (bs : List Nat) (H : AH) : AH := ⟨H.next, takeO bs H.objs⟩
def sAsk (n : Nat) (bs : List Nat) (g : KAsk) : MSum := fun R args H k => g R args (seeH bs H) fun p u => k (.tuple ⟨[sliceV H.next n n, .int .i64 0]⟩) ⟨H.next + 1, (H.next, .cells (pieC p u 0 n) 0) :: H.objs⟩
abbrev KRow := ∀ R : Type, List Value → AH → (Int → Option R) → (Nat → Nat → Int → Option R) → ((Nat → Nat × Nat) → Nat → Nat → Option R) → Option R
def sRow (n : Nat) (bs : List Nat) (g : KRow) : MSum := fun R args H k => g R args (seeH bs H) (fun e => bif e == 0 then none else k (.tuple ⟨[nilS, .complex .f64 0 0, .int .i64 e]⟩) H) (fun x y e => bif e == 0 then none else k (.tuple ⟨[sliceV H.next n n, .complex .f64 x y, .int .i64 e]⟩) ⟨H.next + 1, H.objs⟩) fun v x y => k (.tuple ⟨[sliceV H.next n n, .complex .f64 x y, .int .i64 0]⟩) ⟨H.next + 1, (H.next, .cells (cxL v 0 n) 0) :: H.objs⟩
def sSw (n : Nat) (bs : List Nat) (g : KSv) : MSum := fun R args H k => g R args (seeH bs H) (k noX ⟨H.next, H.objs⟩) fun xs => k (.tuple ⟨[sliceV H.next n n, .int .i64 0]⟩) ⟨H.next + 1, xsA H.next n xs ++ H.objs⟩
def svBs (n : Nat) : List Nat := (7 * n + 1) :: (7 * n + 3) :: upTo (fun i => 6 + 7 * i) 0 n
noncomputable def slC (n : Nat) (mu : KCCC) (wi : KFFB) (ak : KAsk) (rw : KRow) (sv : KSv) : Cx := uC fiReal [(22, sCCC mu), (80, sFFB wi)] [] [(137, sAsk n [0, 1] ak), (138, sRow n [3, 1] rw), (214, sSw n (svBs n) sv)]
section
variable {R : Type}
def muRow (mu : KCCC) (v : Nat → Nat × Nat) (u : Un) : Nat → Nat → (Nat → Nat) → ((Nat → Nat) → Option R) → Option R
  | 0, _, a, k => k a
  | m + 1, j, a, k => mu R (v j).1 (v j).2 u.u1 u.u2 fun _ b => muRow mu v u m (j + 1) (upd1 a j b) k
def updRow (A : Nat → Nat → Nat) (i : Nat) (a : Nat → Nat) (r : Nat) : Nat → Nat := match Nat.beq r i with
  | true => a
  | false => A r
def rowsK (n : Nat) (mu : KCCC) (rw : KRow) (p : Nat → Pn) (u : Nat → Un) (fv : Value) (o : AObj) (er : Int → Option R) : Nat → Nat → (Nat → Nat → Nat) → (Nat → Nat) → ((Nat → Nat → Nat) → (Nat → Nat) → Option R) → Option R
  | 0, _, A, b, k => k A b
  | m + 1, i, A, b, k => rw R [sliceV 3 n n, fv, intV i] ⟨5 + 7 * i, [(3, .cells (pieC p u 0 n) 0), (1, o)]⟩ (fun e => bif e == 0 then none else bif e != 0 then er e else none) (fun _ _ e => bif e == 0 then none else bif e != 0 then er e else none) fun v x y =>
      muRow mu v (u i) n 0 (fun _ => 0) fun a => mu R x y (u i).u1 (u i).u2 fun _ y => forceN (Op.negFloat .f64 y) fun y => rowsK n mu rw p u fv o er m (i + 1) (updRow A i (upd1 a i 4602678819172646912)) (upd1 b i y) k
def wiK (wi : KFFB) (xs : Nat → Nat) (er ok : Option R) : Nat → Nat → Option R
  | 0, _ => ok
  | m + 1, i => wi R (xs i) 4787326403894837248 fun t => bif t then wiK wi xs er ok m (i + 1) else er
end
def svH (n : Nat) (A : Nat → Nat → Nat) (b : Nat → Nat) : AH := ⟨7 * n + 4, (7 * n + 1, .cells (upTo (fun i => sliceV (6 + 7 * i) n n) 0 n) 1) :: (7 * n + 3, .cells (upTo (fun i => fl (b i)) 0 n) 1) :: upTo (fun i => (6 + 7 * i, .cells (upTo (fun j => fl (A i j)) 0 n) 0)) 0 n⟩
def setS (p : Nat → Pn) (xs : Nat → Nat) (i : Nat) : Pn := ⟨(p i).f1, (p i).f2, (p i).t1, (p i).t2, xs i⟩
/-- behind Solve: the answer's list, if there is one -/
def takeSl {R : Type} (n : Nat) (K : Ex → Env → Objs → Option R) : Ex → Env → AH → Option R := fun ex e H => match getE 4 e with
  | some (.slice (some _) _ _) => K ex (takeE [4, 5] e) (takeO [7 * n + 5] H.objs)
  | _ => K ex (takeE [4, 5] e) []
def noS (e : Int) : Env := [(4, nilS), (5, .int .i64 e)]
end Go.Vm
namespace Go.Vm
set_option linter.unusedVariables false
set_option linter.unusedSectionVars false
set_option linter.unusedSimpArgs false

/-! ### Loops gone through round by round, of which behind each round but some names and blocks are told -/
/-- behind round i -/
def contS {R : Type} (ts rt : List Nat) (bo : Nat → List Nat) (i : Nat) (kk : Ex → Env → AH → Option R) : Ex → Env → AH → Option R := fun ex e H => match ex with
  | .normal => kk .normal (takeE ts e) ⟨H.next, takeO (bo (i + 1)) H.objs⟩
  | .exit j => kk (.exit j) (takeE ts e) ⟨H.next, takeO (bo i) H.objs⟩
  | .ret => kk .ret (takeE rt e) ⟨H.next, takeO [0, 1] H.objs⟩
def roundsS {R : Type} (body : Env → AH → (Ex → Env → AH → Option R) → Option R) (ts rt : List Nat) (bo : Nat → List Nat) : Nat → Nat → Env → AH → (Ex → Env → AH → Option R) → Option R
  | 0, _, _, _, _ => none
  | m + 1, i, e, H, k => body e H (contS ts rt bo i fun ex e' H' => match ex with
    | .normal => roundsS body ts rt bo m (i + 1) e' H' k
    | ex => k ex e' H')
def slimV (ts bo : List Nat) (L : Hand) : Hand := fun R lo sz a e H k => L R lo sz a (takeE ts e) ⟨H.next, takeO bo H.objs⟩ k
def rollS (C : Cx) (n : Nat) (ts rt : List Nat) (bo : Nat → List Nat) (m : Nat) : Hand := fun R lo sz a e H k => roundsS (evCode C n lo sz a) ts rt bo m 0 e H k
section
variable {C : Cx} (hC : C.Ok) (hmix : C.P.follows .mixedOrders = true) {n : Nat} {a : Code} {R : Type} {lo sz : Nat} {H0 : AH} {ts rt : List Nat} {bo : Nat → List Nat} (hb : ∀ lo i, oldIn lo (bo i) H0.objs = true) (hr : ∀ lo, oldIn lo [0, 1] H0.objs = true)
include hC hmix hb hr
theorem roundsS_ok : ∀ (m i : Nat) (e : Env) (H : AH) (k : Ex → Env → AH → Option R) (r : R), roundsS (evCode C n lo sz a) ts rt bo m i e H k = some r →
    ∃ ex e' H', k ex e' H' = some r ∧ BaseRounds C.P lo sz H0 a e H ex e' H'
  | 0, i, e, H, k, r, h => by cases h
  | m + 1, i, e, H, k, r, h => by
    unfold roundsS at h
    obtain ⟨ex, e1, H1, h1, h2⟩ := (evCode_sound hC hmix n).1 lo sz a _ _ _ _ h
    have h2' : BaseOk C.P lo sz H0 e H ex e1 H1 (fun Q act w => a.wp C.P Q act w) := CodeOk.base @h2
    cases ex with
    | normal =>
      obtain ⟨ex', e', H', g1, g2⟩ := roundsS_ok m (i + 1) _ _ _ _ h1
      exact ⟨ex', e', H', g1, base_step (BaseOk.less h2' (hb lo (i + 1))) g2⟩
    | exit id => exact ⟨.exit id, _, _, h1, base_end (by intro h; cases h) (BaseOk.less h2' (hb lo i))⟩
    | ret => exact ⟨.ret, _, _, h1, base_end (by intro h; cases h) (BaseOk.less h2' (hr lo))⟩
end
theorem slimV_okB {P : Program} {H0 : AH} {L : Hand} {a : Code} {ts bo : List Nat} (hL : LOkB P H0 L a) (hb : ∀ lo, oldIn lo bo H0.objs = true) : LOkB P H0 (slimV ts bo L) a := fun R lo sz e H k r h => by
  obtain ⟨ex, e', H', h1, h2⟩ := hL R lo sz _ _ k r h
  exact ⟨ex, e', H', h1, BaseOk.more h2 (hb lo)⟩
theorem rollS_okB {C : Cx} (hC : C.Ok) (hmix : C.P.follows .mixedOrders = true) {n m : Nat} {H0 : AH} {ts rt : List Nat} {bo : Nat → List Nat} {a : Code} (hb : ∀ lo i, oldIn lo (bo i) H0.objs = true) (hr : ∀ lo, oldIn lo [0, 1] H0.objs = true) : LOkB C.P H0 (rollS C n ts rt bo m) a := fun R lo sz e H k r h => by
  obtain ⟨ex, e', H', h1, h2⟩ := roundsS_ok hC hmix hb hr _ _ _ _ _ _ h
  exact ⟨ex, e', H', h1, base_loopB h2⟩
end Go.Vm
namespace Go.Vm
open Go.Proofs
set_option linter.unusedVariables false
set_option linter.unusedSimpArgs false
set_option maxRecDepth 1000000

/-! ### panel.Solve: row by row -/
noncomputable def slBody : Code := match (loopsIn (codeOf 50)) with | a :: _ => a | [] => .skip
def slTs : List Nat := [0, 3, 6, 8, 9, 29, 30, 31]
def abBo (i : Nat) : List Nat := match i with | 0 => [] | i + 1 => [1 + 7 * (i + 1), 3 + 7 * (i + 1)]
def slBo (i : Nat) : List Nat := abBo i ++ upTo (fun j => 6 + 7 * j) 0 i ++ [3, 2, 0, 1]
def vecV (b i : Nat) : Value := match i with | 0 => nilS | i + 1 => sliceV b (i + 1) (i + 1)
def slE (n ca i : Nat) : Env := [(0, sliceV 0 n ca), (3, .pointer (some ⟨2, 0, none⟩)), (6, sliceV 3 n n), (8, vecV (1 + 7 * i) i), (9, vecV (3 + 7 * i) i), (29, sliceV 3 n n), (30, intV n), (31, intV i)]
def abO (n i : Nat) (b : Nat → Nat) : Objs := match i with | 0 => [] | i + 1 => [(1 + 7 * (i + 1), .cells (upTo (fun j => sliceV (6 + 7 * j) n n) 0 (i + 1)) 1), (3 + 7 * (i + 1), .cells (upTo (fun j => fl (b j)) 0 (i + 1)) 1)]
def slH (n i : Nat) (A : Nat → Nat → Nat) (b : Nat → Nat) (p' : Nat → Pn) (u : Nat → Un) (X : Value) (p : Nat → Pn) (sz : Nat) (o : AObj) : AH :=
  ⟨4 + 7 * i, abO n i b ++ upTo (fun j => (6 + 7 * j, .cells (upTo (fun k => fl (A j k)) 0 n) 0)) 0 i ++ [(3, .cells (pieC p' u 0 n) 0), (2, .cells [X] 0), (0, .cells (panC p 0 n) sz), (1, o)]⟩
def EqSr (n i : Nat) : Prop := ∀ (R : Type) (mu : KCCC) (wi : KFFB) (ak : KAsk) (rw : KRow) (sv : KSv) (p p' : Nat → Pn) (u : Nat → Un) (X : Value) (ca sz : Nat) (o : AObj) (A : Nat → Nat → Nat) (b : Nat → Nat) (kk : Ex → Env → AH → Option R),
  evCode (slC n mu wi ak rw sv) 100 2 116 slBody (slE n ca i) (slH n i A b p' u X p sz o) (contS slTs [4, 5] slBo i kk) =
    rw R [sliceV 3 n n, .agg ⟨[X]⟩, intV i] ⟨5 + 7 * i, [(3, .cells (pieC p' u 0 n) 0), (1, o)]⟩ (fun e => bif e == 0 then none else bif e != 0 then kk .ret (noS e) ⟨5 + 7 * i, [(0, .cells (panC p 0 n) sz), (1, o)]⟩ else none) (fun _ _ e => bif e == 0 then none else bif e != 0 then kk .ret (noS e) ⟨6 + 7 * i, [(0, .cells (panC p 0 n) sz), (1, o)]⟩ else none) fun v x y =>
      muRow mu v (u i) n 0 (fun _ => 0) fun a => mu R x y (u i).u1 (u i).u2 fun _ y => forceN (Op.negFloat .f64 y) fun y => kk .normal (slE n ca (i + 1)) (slH n (i + 1) (updRow A i (upd1 a i 4602678819172646912)) (upd1 b i y) p' u X p sz o)
def EqSx (n : Nat) : Prop := ∀ (R : Type) (mu : KCCC) (wi : KFFB) (ak : KAsk) (rw : KRow) (sv : KSv) (p p' : Nat → Pn) (u : Nat → Un) (X : Value) (ca sz : Nat) (o : AObj) (A : Nat → Nat → Nat) (b : Nat → Nat) (kk : Ex → Env → AH → Option R),
  evCode (slC n mu wi ak rw sv) 100 2 116 slBody (slE n ca n) (slH n n A b p' u X p sz o) (contS slTs [4, 5] slBo n kk) = kk (.exit 0) (slE n ca n) (slH n n A b p' u X p sz o)
def EqSe (n : Nat) : Prop := ∀ (R : Type) (L : Hand) (mu : KCCC) (wi : KFFB) (ak : KAsk) (rw : KRow) (sv : KSv) (p p' : Nat → Pn) (u : Nat → Un) (X : Value) (ca sz : Nat) (o : AObj) (A : Nat → Nat → Nat) (b : Nat → Nat) (K : Ex → Env → Objs → Option R),
  evTop (slC n mu wi ak rw sv) 100 (orL 97 (rollL (slC n mu wi ak rw sv) 100) L) 2 116 (seqN 6 (codeOf 50)) (slE n ca n) (slH n n A b p' u X p sz o) (takeSl n K) =
    sv R [fieldV, sliceV (7 * n + 1) n n, sliceV (7 * n + 3) n n] (svH n A b) (K .ret (noS 141) []) fun xs => wiK wi xs (K .ret (noS 6) []) (K .ret [(4, sliceV (7 * n + 5) n n), (5, .int .i64 0)] [(7 * n + 5, .cells (panC (setS p xs) 0 n) 3)]) n 0
theorem sl_top (n : Nat) (R : Type) (Lz L : Hand) (mu : KCCC) (wi : KFFB) (ak : KAsk) (rw : KRow) (sv : KSv) (p : Nat → Pn) (X : Value) (ca sz : Nat) (o : AObj) (K : Ex → Env → Objs → Option R) :
  evTop (slC n mu wi ak rw sv) 100 (orL 97 Lz (slimV slTs (slBo 0) L)) 2 116 (codeOf 50) (enumE 0 [sliceV 0 n ca, .agg ⟨[X]⟩]) ⟨2, [(0, .cells (panC p 0 n) sz), (1, o)]⟩ (takeSl n K) =
    ak R [sliceV 0 n ca, .agg ⟨[X]⟩] ⟨3, [(0, .cells (panC p 0 n) sz), (1, o)]⟩ fun p' u => L R 2 116 slBody (slE n ca 0) (slH n 0 (fun _ _ => 0) (fun _ => 0) p' u X p sz o)
      (leaveE 0 (thenE (fun e H => evTop (slC n mu wi ak rw sv) 100 (orL 97 Lz (slimV slTs (slBo 0) L)) 2 116 (seqN 6 (codeOf 50)) e H (takeSl n K)) (takeSl n K))) := by kernel_rfl
end Go.Vm
namespace Go.Vm
open Go.Proofs
set_option linter.unusedVariables false
set_option linter.unusedSectionVars false
set_option linter.unusedSimpArgs false
set_option maxRecDepth 1000000

/-! ### panel.Solve: all rows -/
structure SlG (n : Nat) : Prop where
  r : ∀ i, i < n → EqSr n i
  x : EqSx n
  e : EqSe n
section
variable {n : Nat} (G : SlG n) {R : Type} {mu : KCCC} {wi : KFFB} {ak : KAsk} {rw_ : KRow} {sv : KSv} {p p' : Nat → Pn} {u : Nat → Un} {X : Value} {ca sz : Nat} {o : AObj} {er : Int → Option R} {k : Ex → Env → AH → Option R}
include G
theorem sl_rows (hk : ∀ e N, k .ret (noS e) ⟨N, [(0, .cells (panC p 0 n) sz), (1, o)]⟩ = er e) : ∀ (m i : Nat) (A : Nat → Nat → Nat) (b : Nat → Nat), i + m = n →
    roundsS (evCode (slC n mu wi ak rw_ sv) 100 2 116 slBody) slTs [4, 5] slBo (m + 1) i (slE n ca i) (slH n i A b p' u X p sz o) k =
    rowsK n mu rw_ p' u (.agg ⟨[X]⟩) o er m i A b fun A b => k (.exit 0) (slE n ca n) (slH n n A b p' u X p sz o)
  | 0, i, A, b, h => by
    have : i = n := by omega
    subst this
    show evCode (slC i mu wi ak rw_ sv) 100 2 116 slBody (slE i ca i) (slH i i A b p' u X p sz o) (contS slTs [4, 5] slBo i _) = _
    rw [G.x R mu wi ak rw_ sv p p' u X ca sz o A b]
    rfl
  | m + 1, i, A, b, h => by
    show evCode (slC n mu wi ak rw_ sv) 100 2 116 slBody (slE n ca i) (slH n i A b p' u X p sz o) (contS slTs [4, 5] slBo i _) = _
    rw [G.r i (by omega) R mu wi ak rw_ sv p p' u X ca sz o A b]
    show _ = rw_ R _ _ _ _ _
    refine congr (congr (congrArg (rw_ R _ _) (funext fun e => ?_)) (funext fun _ => funext fun _ => funext fun e => ?_)) (funext fun v => funext fun x => funext fun y => ?_)
    · show (bif e == 0 then none else bif e != 0 then k .ret (noS e) _ else none) = _
      rw [hk]
    · show (bif e == 0 then none else bif e != 0 then k .ret (noS e) _ else none) = _
      rw [hk]
    · refine congrArg (muRow mu v (u i) n 0 (fun _ => 0)) (funext fun a => ?_)
      refine congrArg (mu R x y (u i).u1 (u i).u2) (funext fun _ => funext fun y => ?_)
      refine congrArg (forceN (Op.negFloat .f64 y)) (funext fun y => ?_)
      exact sl_rows hk m (i + 1) _ _ (by omega)
omit G in
noncomputable def slL (n : Nat) (C : Cx) : Hand := orL 97 (rollL C 100) (slimV slTs (slBo 0) (rollS C 100 slTs [4, 5] slBo (n + 1)))
theorem sl_eq {K : Ex → Env → Objs → Option R} : evTop (slC n mu wi ak rw_ sv) 100 (slL n (slC n mu wi ak rw_ sv)) 2 116 (codeOf 50) (enumE 0 [sliceV 0 n ca, .agg ⟨[X]⟩]) ⟨2, [(0, .cells (panC p 0 n) sz), (1, o)]⟩ (takeSl n K) =
    ak R [sliceV 0 n ca, .agg ⟨[X]⟩] ⟨3, [(0, .cells (panC p 0 n) sz), (1, o)]⟩ fun p' u => rowsK n mu rw_ p' u (.agg ⟨[X]⟩) o (fun e => K .ret (noS e) []) n 0 (fun _ _ => 0) (fun _ => 0) fun A b =>
      sv R [fieldV, sliceV (7 * n + 1) n n, sliceV (7 * n + 3) n n] (svH n A b) (K .ret (noS 141) []) fun xs => wiK wi xs (K .ret (noS 6) []) (K .ret [(4, sliceV (7 * n + 5) n n), (5, .int .i64 0)] [(7 * n + 5, .cells (panC (setS p xs) 0 n) 3)]) n 0 := by
  unfold slL
  rw [sl_top]
  refine congrArg (ak R _ _) (funext fun p' => funext fun u => ?_)
  show roundsS _ _ _ _ (n + 1) 0 _ _ _ = _
  rw [sl_rows G (er := fun e => K .ret (noS e) []) (fun e N => rfl) n 0 _ _ (by omega)]
  refine congrArg (rowsK n mu rw_ p' u (.agg ⟨[X]⟩) o (fun e => K .ret (noS e) []) n 0 (fun _ _ => 0) (fun _ => 0)) (funext fun A => funext fun b => ?_)
  rw [leave_then]
  exact G.e R _ mu wi ak rw_ sv p p' u X ca sz o A b K
end
end Go.Vm
namespace Go.Vm
open Go.Proofs
set_option linter.unusedVariables false
set_option linter.unusedSectionVars false
set_option linter.unusedSimpArgs false
set_option maxRecDepth 1000000

/-! ### panel.middles: row by row -/
noncomputable def mdC (n : Nat) (mu add : KCCC) (sc : KCFC) (ak : KAsk) (rw : KRow) : Cx := uC fiReal [(22, sCCC mu), (39, sCFC sc), (84, sCCC add)] [] [(137, sAsk n [0, 1] ak), (138, sRow n [3, 1] rw)]
section
variable {R : Type}
def scRow (sc : KCFC) (p : Nat → Pn) : Nat → Nat → (Nat → Nat × Nat) → ((Nat → Nat × Nat) → Option R) → Option R
  | 0, _, v, k => k v
  | m + 1, j, v, k => sc R (v j).1 (v j).2 (p j).s fun a b => scRow sc p m (j + 1) (updP v j (a, b)) k
def foldP (add : KCCC) (v : Nat → Nat × Nat) : Nat → Nat → Nat → Nat → (Nat → Nat → Option R) → Option R
  | 0, _, a, b, k => k a b
  | m + 1, j, a, b, k => add R a b (v j).1 (v j).2 fun x y => foldP add v m (j + 1) x y k
def sumP (add : KCCC) (v : Nat → Nat × Nat) (n : Nat) (k : Nat → Nat → Option R) : Option R := match n with
  | 0 => k 0 0
  | m + 1 => foldP add v m 1 (v 0).1 (v 0).2 k
def takeAt (b : Nat) (K : Ex → Env → Objs → Option R) : Ex → Env → AH → Option R := fun ex e H => match getE 4 e with
  | some (.slice (some _) _ _) => K ex (takeE [4, 5] e) (takeO [b] H.objs)
  | _ => K ex (takeE [4, 5] e) []
end
noncomputable def mdBody : Code := match (loopsIn (codeOf 140)) with | a :: _ => a | [] => .skip
def mdTs : List Nat := [3, 6, 8, 27, 28, 29]
def mdBo (i : Nat) : List Nat := [4, 3, 2, 0, 1]
def mdE (n i : Nat) : Env := [(3, .pointer (some ⟨2, 0, none⟩)), (6, sliceV 3 n n), (8, sliceV 4 n n), (27, sliceV 3 n n), (28, intV n), (29, intV i)]
def mdH (n i : Nat) (w : Nat → Nat × Nat) (p' : Nat → Pn) (u : Nat → Un) (X : Value) (p : Nat → Pn) (sz : Nat) (o : AObj) : AH :=
  ⟨5 + 2 * i, [(4, .cells (cxL w 0 n) 0), (3, .cells (pieC p' u 0 n) 0), (2, .cells [X] 0), (0, .cells (panC p 0 n) sz), (1, o)]⟩
def EqMr (n i : Nat) : Prop := ∀ (R : Type) (mu add : KCCC) (sc : KCFC) (ak : KAsk) (rw : KRow) (p p' : Nat → Pn) (u : Nat → Un) (X : Value) (sz : Nat) (o : AObj) (w : Nat → Nat × Nat) (kk : Ex → Env → AH → Option R),
  evCode (mdC n mu add sc ak rw) 100 2 77 mdBody (mdE n i) (mdH n i w p' u X p sz o) (contS mdTs [4, 5] mdBo i kk) =
    rw R [sliceV 3 n n, .agg ⟨[X]⟩, intV i] ⟨6 + 2 * i, [(3, .cells (pieC p' u 0 n) 0), (1, o)]⟩ (fun e => bif e == 0 then none else bif e != 0 then kk .ret (noS e) ⟨6 + 2 * i, [(0, .cells (panC p 0 n) sz), (1, o)]⟩ else add R 0 0 0 0 fun a b => mu R a b (u i).u1 (u i).u2 fun a b => kk .normal (mdE n (i + 1)) ⟨6 + 2 * i, (mdH n (i + 1) (updP w i (a, b)) p' u X p sz o).objs⟩) (fun _ _ e => bif e == 0 then none else bif e != 0 then kk .ret (noS e) ⟨7 + 2 * i, [(0, .cells (panC p 0 n) sz), (1, o)]⟩ else none) fun v x y =>
      scRow sc p' n 0 v fun v => sumP add v n fun a b => add R x y a b fun a b => mu R a b (u i).u1 (u i).u2 fun a b => kk .normal (mdE n (i + 1)) (mdH n (i + 1) (updP w i (a, b)) p' u X p sz o)
def EqMx (n : Nat) : Prop := ∀ (R : Type) (mu add : KCCC) (sc : KCFC) (ak : KAsk) (rw : KRow) (p p' : Nat → Pn) (u : Nat → Un) (X : Value) (sz : Nat) (o : AObj) (w : Nat → Nat × Nat) (kk : Ex → Env → AH → Option R),
  evCode (mdC n mu add sc ak rw) 100 2 77 mdBody (mdE n n) (mdH n n w p' u X p sz o) (contS mdTs [4, 5] mdBo n kk) = kk (.exit 0) (mdE n n) (mdH n n w p' u X p sz o)
def EqMe (n : Nat) : Prop := ∀ (R : Type) (L : Hand) (mu add : KCCC) (sc : KCFC) (ak : KAsk) (rw : KRow) (p p' : Nat → Pn) (u : Nat → Un) (X : Value) (sz : Nat) (o : AObj) (w : Nat → Nat × Nat) (K : Ex → Env → Objs → Option R),
  evTop (mdC n mu add sc ak rw) 100 L 2 77 (seqN 5 (codeOf 140)) (mdE n n) (mdH n n w p' u X p sz o) (takeAt 4 K) = K .ret [(4, sliceV 4 n n), (5, .int .i64 0)] [(4, .cells (cxL w 0 n) 0)]
def EqMt (n : Nat) : Prop := ∀ (R : Type) (L : Hand) (mu add : KCCC) (sc : KCFC) (ak : KAsk) (rw : KRow) (p : Nat → Pn) (X : Value) (ca sz : Nat) (o : AObj) (K : Ex → Env → Objs → Option R),
  evTop (mdC n mu add sc ak rw) 100 (slimV mdTs (mdBo 0) L) 2 77 (codeOf 140) (enumE 0 [sliceV 0 n ca, .agg ⟨[X]⟩]) ⟨2, [(0, .cells (panC p 0 n) sz), (1, o)]⟩ (takeAt 4 K) =
    ak R [sliceV 0 n ca, .agg ⟨[X]⟩] ⟨3, [(0, .cells (panC p 0 n) sz), (1, o)]⟩ fun p' u => L R 2 77 mdBody (mdE n 0) (mdH n 0 (fun _ => (0, 0)) p' u X p sz o)
      (leaveE 0 (thenE (fun e H => evTop (mdC n mu add sc ak rw) 100 (slimV mdTs (mdBo 0) L) 2 77 (seqN 5 (codeOf 140)) e H (takeAt 4 K)) (takeAt 4 K)))
end Go.Vm
namespace Go.Vm
open Go.Proofs
set_option linter.unusedVariables false
set_option linter.unusedSectionVars false
set_option linter.unusedSimpArgs false
set_option maxRecDepth 1000000

/-! ### panel.middles: all rows -/
structure MdG (n : Nat) : Prop where
  r : ∀ i, i < n → EqMr n i
  x : EqMx n
  e : EqMe n
  t : EqMt n
section
variable {R : Type}
def midK (n : Nat) (mu add : KCCC) (sc : KCFC) (rw : KRow) (p : Nat → Pn) (u : Nat → Un) (fv : Value) (o : AObj) (er : Int → Option R) : Nat → Nat → (Nat → Nat × Nat) → ((Nat → Nat × Nat) → Option R) → Option R
  | 0, _, w, k => k w
  | m + 1, i, w, k => rw R [sliceV 3 n n, fv, intV i] ⟨6 + 2 * i, [(3, .cells (pieC p u 0 n) 0), (1, o)]⟩ (fun e => bif e == 0 then none else er e) (fun _ _ e => bif e == 0 then none else er e) fun v x y =>
      scRow sc p n 0 v fun v => sumP add v n fun a b => add R x y a b fun a b => mu R a b (u i).u1 (u i).u2 fun a b => midK n mu add sc rw p u fv o er m (i + 1) (updP w i (a, b)) k
end
section
variable {n : Nat} (G : MdG n) {R : Type} {mu add : KCCC} {sc : KCFC} {ak : KAsk} {rw_ : KRow} {p p' : Nat → Pn} {u : Nat → Un} {X : Value} {ca sz : Nat} {o : AObj} {er : Int → Option R} {k : Ex → Env → AH → Option R}
include G
theorem md_rows (hk : ∀ e N, k .ret (noS e) ⟨N, [(0, .cells (panC p 0 n) sz), (1, o)]⟩ = er e) : ∀ (m i : Nat) (w : Nat → Nat × Nat), i + m = n →
    roundsS (evCode (mdC n mu add sc ak rw_) 100 2 77 mdBody) mdTs [4, 5] mdBo (m + 1) i (mdE n i) (mdH n i w p' u X p sz o) k =
    midK n mu add sc rw_ p' u (.agg ⟨[X]⟩) o er m i w fun w => k (.exit 0) (mdE n n) (mdH n n w p' u X p sz o)
  | 0, i, w, h => by
    have : i = n := by omega
    subst this
    show evCode (mdC i mu add sc ak rw_) 100 2 77 mdBody (mdE i i) (mdH i i w p' u X p sz o) (contS mdTs [4, 5] mdBo i _) = _
    rw [G.x R mu add sc ak rw_ p p' u X sz o w]
    rfl
  | m + 1, i, w, h => by
    show evCode (mdC n mu add sc ak rw_) 100 2 77 mdBody (mdE n i) (mdH n i w p' u X p sz o) (contS mdTs [4, 5] mdBo i _) = _
    rw [G.r i (by omega) R mu add sc ak rw_ p p' u X sz o w]
    show _ = rw_ R _ _ _ _ _
    refine congr (congr (congrArg (rw_ R _ _) (funext fun e => ?_)) (funext fun _ => funext fun _ => funext fun e => ?_)) (funext fun v => funext fun x => funext fun y => ?_)
    · cases h0 : (e == 0) with
      | true => rfl
      | false =>
        have : (e != 0) = true := by simp at h0; simp [h0]
        rw [this]
        show k .ret (noS e) _ = er e
        rw [hk]
    · cases h0 : (e == 0) with
      | true => rfl
      | false =>
        have : (e != 0) = true := by simp at h0; simp [h0]
        rw [this]
        show k .ret (noS e) _ = er e
        rw [hk]
    · refine congrArg (scRow sc p' n 0 v) (funext fun v => ?_)
      refine congrArg (sumP add v n) (funext fun a => funext fun b => ?_)
      refine congrArg (add R x y a b) (funext fun a => funext fun b => ?_)
      refine congrArg (mu R a b (u i).u1 (u i).u2) (funext fun a => funext fun b => ?_)
      exact md_rows hk m (i + 1) _ (by omega)
omit G in
noncomputable def mdL (n : Nat) (C : Cx) : Hand := slimV mdTs (mdBo 0) (rollS C 100 mdTs [4, 5] mdBo (n + 1))
theorem md_eq {K : Ex → Env → Objs → Option R} : evTop (mdC n mu add sc ak rw_) 100 (mdL n (mdC n mu add sc ak rw_)) 2 77 (codeOf 140) (enumE 0 [sliceV 0 n ca, .agg ⟨[X]⟩]) ⟨2, [(0, .cells (panC p 0 n) sz), (1, o)]⟩ (takeAt 4 K) =
    ak R [sliceV 0 n ca, .agg ⟨[X]⟩] ⟨3, [(0, .cells (panC p 0 n) sz), (1, o)]⟩ fun p' u => midK n mu add sc rw_ p' u (.agg ⟨[X]⟩) o (fun e => K .ret (noS e) []) n 0 (fun _ => (0, 0)) fun w =>
      K .ret [(4, sliceV 4 n n), (5, .int .i64 0)] [(4, .cells (cxL w 0 n) 0)] := by
  unfold mdL
  rw [G.t]
  refine congrArg (ak R _ _) (funext fun p' => funext fun u => ?_)
  show roundsS _ _ _ _ (n + 1) 0 _ _ _ = _
  rw [md_rows G (er := fun e => K .ret (noS e) []) (fun e N => rfl) n 0 _ (by omega)]
  refine congrArg (midK n mu add sc rw_ p' u (.agg ⟨[X]⟩) o (fun e => K .ret (noS e) []) n 0 (fun _ => (0, 0))) (funext fun w => ?_)
  rw [leave_then]
  exact G.e R _ mu add sc ak rw_ p p' u X sz o w K
end
end Go.Vm
namespace Go.Vm
open Go.Proofs
set_option linter.unusedVariables false
set_option linter.unusedSectionVars false
set_option linter.unusedSimpArgs false
set_option maxRecDepth 1000000

/-! ### panel.Of: a closed path's panels -/
noncomputable def pofC (wi : KCF1) (of : KPo2) : Cx := uC fiReal [(135, sCFB1 wi), (136, sPo2 of)] [] []
section
variable {R : Type}
def wiP (wi : KCF1) (l : Nat → Nat × Nat) : Nat → Nat → Option R → Option R
  | 0, _, k => k
  | m + 1, i, k => wi R (l i).1 (l i).2 4787326403894837248 (wiP wi l m (i + 1) k)
def nxt (n i : Nat) : Nat := bif Nat.beq (i + 1) n then 0 else i + 1
def pofK (of : KPo2) (n : Nat) (l : Nat → Nat × Nat) (er : Option R) : Nat → Nat → Option R → Option R
  | 0, _, k => k
  | m + 1, i, k => of R (l i).1 (l i).2 (l (nxt n i)).1 (l (nxt n i)).2 0 er fun _ _ _ _ _ => pofK of n l er m (i + 1) k
end
def pn (n : Nat) (l : Nat → Nat × Nat) (i : Nat) : Pn := ⟨(l i).1, (l i).2, (l (nxt n i)).1, (l (nxt n i)).2, 0⟩
/-- behind Of: the answer's list, if there is one -/
def takeOf {R : Type} (b : Nat) (K : Ex → Env → Objs → Option R) : Ex → Env → AH → Option R := fun ex e H => match getE 2 e with
  | some (.slice (some _) _ _) => K ex (takeE [2, 3] e) (takeO [b] H.objs)
  | _ => K ex (takeE [2, 3] e) []
def EqOf (n : Nat) : Prop := ∀ (R : Type) (wi : KCF1) (of : KPo2) (l : Nat → Nat × Nat) (sz : Nat) (K : Ex → Env → Objs → Option R),
  evTop (pofC wi of) 100 (rollL (pofC wi of) 100) 1 66 (codeOf 49) (enumE 0 [sliceV 0 n n]) ⟨1, [(0, .cells (cxL l 0 n) sz)]⟩ (takeOf (4 * n + 3) K) =
    wiP wi l n 0 (pofK of n l (K .ret [(2, nilS), (3, .int .i64 250)] []) n 0 (K .ret [(2, sliceV (4 * n + 3) n n), (3, .int .i64 0)] [(4 * n + 3, .cells (panC (pn n l) 0 n) 3)]))
/-- too few places -/
def EqFew (n : Nat) : Prop := ∀ (L : Hand) (R : Type) (wi : KCF1) (of : KPo2) (c sz : Nat) (cs : List Value) (K : Ex → Env → Objs → Option R),
  evTop (pofC wi of) 100 L 1 66 (codeOf 49) (enumE 0 [sliceV 0 n c]) ⟨1, [(0, .cells cs sz)]⟩ (takeC [2, 3] [] K) = K .ret [(2, nilS), (3, .int .i64 4)] []
theorem few_1 : EqFew 1 := by intro L R wi of c sz cs K; kernel_rfl
theorem few_2 : EqFew 2 := by intro L R wi of c sz cs K; kernel_rfl
theorem few_nil (L : Hand) (R : Type) (wi : KCF1) (of : KPo2) (K : Ex → Env → Objs → Option R) :
  evTop (pofC wi of) 100 L 0 66 (codeOf 49) (enumE 0 [nilS]) ⟨0, []⟩ (takeC [2, 3] [] K) = K .ret [(2, nilS), (3, .int .i64 4)] [] := by kernel_rfl
abbrev KMd := ∀ R : Type, List Value → AH → (Int → Option R) → ((Nat → Nat × Nat) → Option R) → Option R
def sMd (n : Nat) (bs : List Nat) (g : KMd) : MSum := fun R args H k => g R args (seeH bs H) (fun e => k (.tuple ⟨[nilS, .int .i64 e]⟩) H) fun w => k (.tuple ⟨[sliceV H.next n n, .int .i64 0]⟩) ⟨H.next + 1, (H.next, .cells (cxL w 0 n) 0) :: H.objs⟩
noncomputable def tgC (n : Nat) (ab : KFF) (mx : KFFF) (fi : KF1) (md : KMd) : Cx := uC fiReal [(53, sFF ab), (131, sFFF mx), (141, sFB1 fi)] [] [(140, sMd n [0, 1] md)]
section
variable {R : Type}
def maxK (ab : KFF) (mx : KFFF) (w : Nat → Nat × Nat) : Nat → Nat → Nat → (Nat → Option R) → Option R
  | 0, _, m, k => k m
  | n + 1, i, m, k => ab R (w i).2 fun a => mx R m a fun m => maxK ab mx w n (i + 1) m k
end
def EqTh (n : Nat) : Prop := ∀ (R : Type) (ab : KFF) (mx : KFFF) (fi : KF1) (md : KMd) (p : Nat → Pn) (X : Value) (ca sz : Nat) (o : AObj) (K : Ex → Env → Objs → Option R),
  evTop (tgC n ab mx fi md) 100 (rollL (tgC n ab mx fi md) 100) 2 36 (codeOf 51) (enumE 0 [sliceV 0 n ca, .agg ⟨[X]⟩]) ⟨2, [(0, .cells (panC p 0 n) sz), (1, o)]⟩ (takeC [4, 5] [] K) =
    md R [sliceV 0 n ca, .agg ⟨[X]⟩] ⟨3, [(0, .cells (panC p 0 n) sz), (1, o)]⟩ (fun e => bif e != 0 then K .ret [(4, fl 0), (5, .int .i64 e)] [] else fi R 0 (K .ret [(4, fl 0), (5, .int .i64 0)] [])) fun w =>
      maxK ab mx w n 0 0 fun m => fi R m (K .ret [(4, fl m), (5, .int .i64 0)] [])
theorem pof_3 : EqOf 3 := by intro R wi of l sz K; kernel_rfl
theorem th_3 : EqTh 3 := by intro R ab mx fi md p X ca sz o K; kernel_rfl
end Go.Vm
namespace Go.Vm
open Go.Proofs
set_option linter.unusedVariables false
set_option maxRecDepth 1000000
theorem sr_3 : ∀ i, i < 3 → EqSr 3 i := by
  repeat' first | exact lt_none | refine lt_split ?_ ?_
  all_goals (intro R mu wi ak rw sv p p' u X ca sz o A b kk; kernel_rfl)
theorem sx_3 : EqSx 3 := by intro R mu wi ak rw sv p p' u X ca sz o A b kk; kernel_rfl
theorem se_3 : EqSe 3 := by intro R L mu wi ak rw sv p p' u X ca sz o A b K; kernel_rfl
theorem sr_4 : ∀ i, i < 4 → EqSr 4 i := by
  repeat' first | exact lt_none | refine lt_split ?_ ?_
  all_goals (intro R mu wi ak rw sv p p' u X ca sz o A b kk; kernel_rfl)
theorem sx_4 : EqSx 4 := by intro R mu wi ak rw sv p p' u X ca sz o A b kk; kernel_rfl
theorem se_4 : EqSe 4 := by intro R L mu wi ak rw sv p p' u X ca sz o A b K; kernel_rfl
theorem sr_5 : ∀ i, i < 5 → EqSr 5 i := by
  repeat' first | exact lt_none | refine lt_split ?_ ?_
  all_goals (intro R mu wi ak rw sv p p' u X ca sz o A b kk; kernel_rfl)
theorem sx_5 : EqSx 5 := by intro R mu wi ak rw sv p p' u X ca sz o A b kk; kernel_rfl
theorem se_5 : EqSe 5 := by intro R L mu wi ak rw sv p p' u X ca sz o A b K; kernel_rfl
theorem sr_6 : ∀ i, i < 6 → EqSr 6 i := by
  repeat' first | exact lt_none | refine lt_split ?_ ?_
  all_goals (intro R mu wi ak rw sv p p' u X ca sz o A b kk; kernel_rfl)
theorem sx_6 : EqSx 6 := by intro R mu wi ak rw sv p p' u X ca sz o A b kk; kernel_rfl
theorem se_6 : EqSe 6 := by intro R L mu wi ak rw sv p p' u X ca sz o A b K; kernel_rfl
end Go.Vm
namespace Go.Vm
open Go.Proofs
set_option linter.unusedVariables false
set_option maxRecDepth 1000000
theorem sr_7 : ∀ i, i < 7 → EqSr 7 i := by
  repeat' first | exact lt_none | refine lt_split ?_ ?_
  all_goals (intro R mu wi ak rw sv p p' u X ca sz o A b kk; kernel_rfl)
theorem sx_7 : EqSx 7 := by intro R mu wi ak rw sv p p' u X ca sz o A b kk; kernel_rfl
theorem se_7 : EqSe 7 := by intro R L mu wi ak rw sv p p' u X ca sz o A b K; kernel_rfl
end Go.Vm
namespace Go.Vm
open Go.Proofs
set_option linter.unusedVariables false
set_option maxRecDepth 1000000
theorem sr_8 : ∀ i, i < 8 → EqSr 8 i := by
  repeat' first | exact lt_none | refine lt_split ?_ ?_
  all_goals (intro R mu wi ak rw sv p p' u X ca sz o A b kk; kernel_rfl)
theorem sx_8 : EqSx 8 := by intro R mu wi ak rw sv p p' u X ca sz o A b kk; kernel_rfl
theorem se_8 : EqSe 8 := by intro R L mu wi ak rw sv p p' u X ca sz o A b K; kernel_rfl
end Go.Vm
namespace Go.Vm
open Go.Proofs
set_option linter.unusedVariables false
set_option maxRecDepth 1000000
theorem mr_3 : ∀ i, i < 3 → EqMr 3 i := by
  repeat' first | exact lt_none | refine lt_split ?_ ?_
  all_goals (intro R mu add sc ak rw p p' u X sz o w kk; kernel_rfl)
theorem mx_3 : EqMx 3 := by intro R mu add sc ak rw p p' u X sz o w kk; kernel_rfl
theorem me_3 : EqMe 3 := by intro R L mu add sc ak rw p p' u X sz o w K; kernel_rfl
theorem mt_3 : EqMt 3 := by intro R L mu add sc ak rw p X ca sz o K; kernel_rfl
theorem mr_4 : ∀ i, i < 4 → EqMr 4 i := by
  repeat' first | exact lt_none | refine lt_split ?_ ?_
  all_goals (intro R mu add sc ak rw p p' u X sz o w kk; kernel_rfl)
theorem mx_4 : EqMx 4 := by intro R mu add sc ak rw p p' u X sz o w kk; kernel_rfl
theorem me_4 : EqMe 4 := by intro R L mu add sc ak rw p p' u X sz o w K; kernel_rfl
theorem mt_4 : EqMt 4 := by intro R L mu add sc ak rw p X ca sz o K; kernel_rfl
theorem mr_5 : ∀ i, i < 5 → EqMr 5 i := by
  repeat' first | exact lt_none | refine lt_split ?_ ?_
  all_goals (intro R mu add sc ak rw p p' u X sz o w kk; kernel_rfl)
theorem mx_5 : EqMx 5 := by intro R mu add sc ak rw p p' u X sz o w kk; kernel_rfl
theorem me_5 : EqMe 5 := by intro R L mu add sc ak rw p p' u X sz o w K; kernel_rfl
theorem mt_5 : EqMt 5 := by intro R L mu add sc ak rw p X ca sz o K; kernel_rfl
theorem mr_6 : ∀ i, i < 6 → EqMr 6 i := by
  repeat' first | exact lt_none | refine lt_split ?_ ?_
  all_goals (intro R mu add sc ak rw p p' u X sz o w kk; kernel_rfl)
theorem mx_6 : EqMx 6 := by intro R mu add sc ak rw p p' u X sz o w kk; kernel_rfl
theorem me_6 : EqMe 6 := by intro R L mu add sc ak rw p p' u X sz o w K; kernel_rfl
theorem mt_6 : EqMt 6 := by intro R L mu add sc ak rw p X ca sz o K; kernel_rfl
end Go.Vm
namespace Go.Vm
open Go.Proofs
set_option linter.unusedVariables false
set_option maxRecDepth 1000000
theorem mr_7 : ∀ i, i < 7 → EqMr 7 i := by
  repeat' first | exact lt_none | refine lt_split ?_ ?_
  all_goals (intro R mu add sc ak rw p p' u X sz o w kk; kernel_rfl)
theorem mx_7 : EqMx 7 := by intro R mu add sc ak rw p p' u X sz o w kk; kernel_rfl
theorem me_7 : EqMe 7 := by intro R L mu add sc ak rw p p' u X sz o w K; kernel_rfl
theorem mt_7 : EqMt 7 := by intro R L mu add sc ak rw p X ca sz o K; kernel_rfl
end Go.Vm
namespace Go.Vm
open Go.Proofs
set_option linter.unusedVariables false
set_option maxRecDepth 1000000
theorem mr_8 : ∀ i, i < 8 → EqMr 8 i := by
  repeat' first | exact lt_none | refine lt_split ?_ ?_
  all_goals (intro R mu add sc ak rw p p' u X sz o w kk; kernel_rfl)
theorem mx_8 : EqMx 8 := by intro R mu add sc ak rw p p' u X sz o w kk; kernel_rfl
theorem me_8 : EqMe 8 := by intro R L mu add sc ak rw p p' u X sz o w K; kernel_rfl
theorem mt_8 : EqMt 8 := by intro R L mu add sc ak rw p X ca sz o K; kernel_rfl
end Go.Vm
namespace Go.Vm
open Go.Proofs
set_option linter.unusedVariables false
set_option maxRecDepth 1000000
theorem pof_4 : EqOf 4 := by intro R wi of l sz K; kernel_rfl
theorem th_4 : EqTh 4 := by intro R ab mx fi md p X ca sz o K; kernel_rfl
theorem pof_5 : EqOf 5 := by intro R wi of l sz K; kernel_rfl
theorem th_5 : EqTh 5 := by intro R ab mx fi md p X ca sz o K; kernel_rfl
theorem pof_6 : EqOf 6 := by intro R wi of l sz K; kernel_rfl
theorem th_6 : EqTh 6 := by intro R ab mx fi md p X ca sz o K; kernel_rfl
end Go.Vm
namespace Go.Vm
open Go.Proofs
set_option linter.unusedVariables false
set_option maxRecDepth 1000000
theorem pof_7 : EqOf 7 := by intro R wi of l sz K; kernel_rfl
theorem th_7 : EqTh 7 := by intro R ab mx fi md p X ca sz o K; kernel_rfl
end Go.Vm
namespace Go.Vm
open Go.Proofs
set_option linter.unusedVariables false
set_option maxRecDepth 1000000
theorem pof_8 : EqOf 8 := by intro R wi of l sz K; kernel_rfl
theorem th_8 : EqTh 8 := by intro R ab mx fi md p X ca sz o K; kernel_rfl
end Go.Vm
namespace Go.Vm
open Go.Proofs
set_option linter.unusedVariables false
set_option maxRecDepth 1000000

theorem rw_3 : ∀ i, i < 3 → EqRw 3 i := by
  repeat' first | exact lt_none | refine lt_split ?_ ?_
  all_goals (intro R pa sd cj ti sc p u t m c sz o K; cases t <;> kernel_rfl)
theorem al_4 : EqAl 4 := by intro R of p c sz K; kernel_rfl
theorem rw_4 : ∀ i, i < 4 → EqRw 4 i := by
  repeat' first | exact lt_none | refine lt_split ?_ ?_
  all_goals (intro R pa sd cj ti sc p u t m c sz o K; cases t <;> kernel_rfl)
theorem al_5 : EqAl 5 := by intro R of p c sz K; kernel_rfl
theorem rw_5 : ∀ i, i < 5 → EqRw 5 i := by
  repeat' first | exact lt_none | refine lt_split ?_ ?_
  all_goals (intro R pa sd cj ti sc p u t m c sz o K; cases t <;> kernel_rfl)
theorem al_6 : EqAl 6 := by intro R of p c sz K; kernel_rfl
theorem rw_6 : ∀ i, i < 6 → EqRw 6 i := by
  repeat' first | exact lt_none | refine lt_split ?_ ?_
  all_goals (intro R pa sd cj ti sc p u t m c sz o K; cases t <;> kernel_rfl)
end Go.Vm
namespace Go.Vm
open Go.Proofs
set_option linter.unusedVariables false
set_option maxRecDepth 1000000
theorem al_7 : EqAl 7 := by intro R of p c sz K; kernel_rfl
theorem rw_7 : ∀ i, i < 7 → EqRw 7 i := by
  repeat' first | exact lt_none | refine lt_split ?_ ?_
  all_goals (intro R pa sd cj ti sc p u t m c sz o K; cases t <;> kernel_rfl)
end Go.Vm
namespace Go.Vm
open Go.Proofs
set_option linter.unusedVariables false
set_option maxRecDepth 1000000
theorem al_8 : EqAl 8 := by intro R of p c sz K; kernel_rfl
theorem rw_8 : ∀ i, i < 8 → EqRw 8 i := by
  repeat' first | exact lt_none | refine lt_split ?_ ?_
  all_goals (intro R pa sd cj ti sc p u t m c sz o K; cases t <;> kernel_rfl)
end Go.Vm
