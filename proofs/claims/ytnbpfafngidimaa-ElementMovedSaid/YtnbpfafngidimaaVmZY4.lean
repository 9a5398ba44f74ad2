/- The program's functions of floats are what is told of them; no conditions. -/
import Derived.Test.YtnbpfafngidimaaVmP17
import Derived.Test.YtnbpfafngidimaaVmZY0
import Derived.Test.YtnbpfafngidimaaVmZY1
import Derived.Test.YtnbpfafngidimaaVmKV
import Derived.Test.YtnbpfafngidimaaVmO
namespace Go.Vm
open Go.Proofs
set_option linter.unusedVariables false
set_option maxRecDepth 1000000
def sTrue : Sum := fun R args k => match args with | [] => k (.bool true) | _ => none
theorem zm_ok : Try.prog.follows .mixedOrders = true := by kernel_rfl
theorem h14 : Has Try.prog 14 := ⟨Try.f14, _, Try.func14, by kernel_rfl, rfl⟩
theorem h15 : Has Try.prog 15 := ⟨Try.f15, _, Try.func15, by kernel_rfl, rfl⟩
theorem h31 : Has Try.prog 31 := ⟨Try.f31, _, Try.func31, by kernel_rfl, rfl⟩
theorem h20 : Has Try.prog 20 := ⟨Try.f20, _, Try.func20, by kernel_rfl, rfl⟩
theorem h9 : Has Try.prog 9 := ⟨Try.f9, _, Try.func9, by kernel_rfl, rfl⟩
theorem h63 : Has Try.prog 63 := ⟨Try.f63, _, Try.func63, by kernel_rfl, rfl⟩
theorem h30 : Has Try.prog 30 := ⟨Try.f30, _, Try.func30, by kernel_rfl, rfl⟩
section shapes
variable {P : Program} {l : List (Nat × Sum)} {n : Nat} {f : FuncId}
theorem ok_sDet {g : KMC} (hm : P.follows .mixedOrders = true) (h : AllOk P l)
    (hg : ∀ (R : Type) (m : Mp) (k : Value → Option R), evFn (cx P l) n f [mv 1 m] k = g R m fun x y => k (.complex .f64 x y)) : SumOk P f (sDet g) :=
  sumOk_of hm h (n := n) fun R args k r hr => by
    unfold sDet at hr; split at hr
    · obtain ⟨i, m, rfl, hx⟩ := oneM_some hr
      cases hi : (i == 1) with
      | false => rw [hi] at hx; cases hx
      | true =>
        rw [hi] at hx
        have : i = 1 := by simpa using hi
        subst this
        exact ⟨rfl, by rw [hg]; exact hx⟩
    · cases hr
theorem ok_sMM {g : KMM} (hm : P.follows .mixedOrders = true) (h : AllOk P l)
    (hg : ∀ (R : Type) (m : Mp) (k : Value → Option R), evFn (cx P l) n f [mv 1 m] k = g R m (fun e => k (.tuple ⟨[mv 0 zm, .int .i64 e]⟩)) (fun m => k (.tuple ⟨[mv 1 m, .int .i64 0]⟩))) : SumOk P f (sMM g) :=
  sumOk_of hm h (n := n) fun R args k r hr => by
    unfold sMM at hr; split at hr
    · obtain ⟨i, m, rfl, hx⟩ := oneM_some hr
      cases hi : (i == 1) with
      | false => rw [hi] at hx; cases hx
      | true =>
        rw [hi] at hx
        have : i = 1 := by simpa using hi
        subst this
        exact ⟨rfl, by rw [hg]; exact hx⟩
    · cases hr
theorem ok_sMMM {g : KMMM} (hm : P.follows .mixedOrders = true) (h : AllOk P l)
    (hg : ∀ (R : Type) (m u : Mp) (k : Value → Option R), evFn (cx P l) n f [mv 1 m, mv 1 u] k = g R m u (fun e => k (.tuple ⟨[mv 0 zm, .int .i64 e]⟩)) (fun m => k (.tuple ⟨[mv 1 m, .int .i64 0]⟩))) : SumOk P f (sMMM g) :=
  sumOk_of hm h (n := n) fun R args k r hr => by
    unfold sMMM at hr; split at hr
    · obtain ⟨i, m, rfl, hx⟩ := oneM_some hr
      obtain ⟨j, u, rfl, hy⟩ := oneM_some hx
      cases hi : (i == 1 && j == 1) with
      | false => rw [hi] at hy; cases hy
      | true =>
        rw [hi] at hy
        obtain ⟨rfl, rfl⟩ : i = 1 ∧ j = 1 := by simpa using hi
        exact ⟨rfl, by rw [hg]; exact hy⟩
    · cases hr
theorem ok_sMMB {g : KMMB} (hm : P.follows .mixedOrders = true) (h : AllOk P l)
    (hg : ∀ (R : Type) (m u : Mp) (k : Value → Option R), evFn (cx P l) n f [mv 1 m, mv 1 u] k = g R m u fun t => k (.bool t)) : SumOk P f (sMMB g) :=
  sumOk_of hm h (n := n) fun R args k r hr => by
    unfold sMMB at hr; split at hr
    · obtain ⟨i, m, rfl, hx⟩ := oneM_some hr
      obtain ⟨j, u, rfl, hy⟩ := oneM_some hx
      cases hi : (i == 1 && j == 1) with
      | false => rw [hi] at hy; cases hy
      | true =>
        rw [hi] at hy
        obtain ⟨rfl, rfl⟩ : i = 1 ∧ j = 1 := by simpa using hi
        exact ⟨rfl, by rw [hg]; simpa only [forceB_eq, cond_true] using hy⟩
    · cases hr
theorem ok_sChk {g1 g2 : KMI} (hm : P.follows .mixedOrders = true) (h : AllOk P l)
    (hg1 : ∀ (R : Type) (m : Mp) (k : Value → Option R), evFn (cx P l) n f [mv 1 m] k = g1 R m fun e => k (.int .i64 e))
    (hg2 : ∀ (R : Type) (m : Mp) (k : Value → Option R), evFn (cx P l) n f [mv 2 m] k = g2 R m fun e => k (.int .i64 e)) : SumOk P f (sChk g1 g2) :=
  sumOk_of hm h (n := n) fun R args k r hr => by
    unfold sChk at hr; split at hr
    · obtain ⟨i, m, rfl, hx⟩ := oneM_some hr
      cases hi : (i == 1) with
      | true =>
        rw [hi] at hx
        have : i = 1 := by simpa using hi
        subst this
        exact ⟨rfl, by rw [hg1]; exact hx⟩
      | false =>
        rw [hi] at hx
        simp only [cond_false] at hx
        cases hj : (i == 2) with
        | false => rw [hj] at hx; cases hx
        | true =>
          rw [hj] at hx
          have : i = 2 := by simpa using hj
          subst this
          exact ⟨rfl, by rw [hg2]; exact hx⟩
    · cases hr
theorem ok_sC4 {g : KC4} (hm : P.follows .mixedOrders = true) (h : AllOk P l)
    (hg : ∀ (R : Type) a b c d a' b' c' d' (k : Value → Option R), evFn (cx P l) n f [.complex .f64 a b, .complex .f64 c d, .complex .f64 a' b', .complex .f64 c' d'] k = g R a b c d a' b' c' d' fun x y => k (.complex .f64 x y)) : SumOk P f (sC4 g) :=
  sumOk_of hm h (n := n) fun R args k r hr => by
    unfold sC4 at hr; split at hr
    · exact ⟨rfl, by rw [hg]; exact hr⟩
    · cases hr
theorem ok_sUp {g : KGB} (hm : P.follows .mixedOrders = true) (h : AllOk P l)
    (hg : ∀ (R : Type) x y (k : Value → Option R), evFn (cx P l) n f [.agg ⟨[.int .i16 x, .int .i16 y]⟩, .int .i16 8] k = g R x y fun t => k (.bool t)) : SumOk P f (sUp g) :=
  sumOk_of hm h (n := n) fun R args k r hr => by
    unfold sUp at hr; split at hr
    · rename_i x y to
      cases hi : (to == 8) with
      | false => rw [hi] at hr; cases hr
      | true =>
        rw [hi] at hr
        have : to = 8 := by simpa using hi
        subst this
        exact ⟨rfl, by rw [hg]; simpa only [forceB_eq, cond_true] using hr⟩
    · cases hr
theorem ok_sOf {g : KGC} (hm : P.follows .mixedOrders = true) (h : AllOk P l)
    (hg : ∀ (R : Type) x y (k : Value → Option R), evFn (cx P l) n f [.agg ⟨[.int .i16 x, .int .i16 y]⟩] k = g R x y fun a b => k (.complex .f64 a b)) : SumOk P f (sOf g) :=
  sumOk_of hm h (n := n) fun R args k r hr => by
    unfold sOf at hr; split at hr
    · exact ⟨rfl, by rw [hg]; exact hr⟩
    · cases hr
theorem ok_sFrM {g : KFrM} (hm : P.follows .mixedOrders = true) (h : AllOk P l)
    (hg : ∀ (R : Type) (q : Fr) (k : Value → Option R), evFn (cx P l) n f [fv q] k = g R q fun m => k (mv 1 m)) : SumOk P f (sFrM g) :=
  sumOk_of hm h (n := n) fun R args k r hr => by
    unfold sFrM at hr; split at hr
    · obtain ⟨q, rfl, hx⟩ := oneF_some hr
      exact ⟨rfl, by rw [hg]; exact hx⟩
    · cases hr
theorem ok_sFrB {g : KFrB} (hm : P.follows .mixedOrders = true) (h : AllOk P l)
    (hg : ∀ (R : Type) (q : Fr) (k : Value → Option R), evFn (cx P l) n f [fv q] k = g R q fun t => k (.bool t)) : SumOk P f (sFrB g) :=
  sumOk_of hm h (n := n) fun R args k r hr => by
    unfold sFrB at hr; split at hr
    · obtain ⟨q, rfl, hx⟩ := oneF_some hr
      exact ⟨rfl, by rw [hg]; simpa only [forceB_eq] using hx⟩
    · cases hr
theorem ok_sTrue (hm : P.follows .mixedOrders = true) (h : AllOk P l)
    (hg : ∀ (R : Type) (k : Value → Option R), evFn (cx P l) n f [] k = k (.bool true)) : SumOk P f sTrue :=
  sumOk_of hm h (n := n) fun R args k r hr => by
    unfold sTrue at hr; split at hr
    · exact ⟨rfl, by rw [hg]; exact hr⟩
    · cases hr
end shapes
theorem k14 : SumOk Try.prog 14 (sCCC subK) := ok_sCCC zm_ok .nil z_sub
theorem k15 : SumOk Try.prog 15 (sCCC mulK) := ok_sCCC zm_ok .nil z_mul
theorem k9 : SumOk Try.prog 9 (sCCC addK) := ok_sCCC zm_ok .nil z_add
theorem k63 : SumOk Try.prog 63 (sCC negK) := ok_sCC zm_ok .nil z_neg
theorem k31 : SumOk Try.prog 31 (sFF absK) := ok_sFF zm_ok .nil z_abs
theorem k20 : SumOk Try.prog 20 (sFFB withinK) := ok_sFFB zm_ok (.cons k31 h31 .nil) (z_within _)
theorem k30 : SumOk Try.prog 30 (sCFB WithinK) := ok_sCFB zm_ok (.cons k20 h20 .nil) (z_Within _)
theorem SumOk.weak {P : Program} {f : FuncId} {s1 s2 : Sum} (h : SumOk P f s1)
    (H : ∀ (R : Type) (args : List Value) (k : Value → Option R) (r : R), s2 R args k = some r → ∃ k', s1 R args k' = some r ∧ ∀ v, k' v = some r → k v = some r) : SumOk P f s2 := by
  intro R args k r hr
  obtain ⟨k', h1, h2⟩ := H R args k r hr
  obtain ⟨h3, v, h4, h5, h6⟩ := h R args k' r h1
  exact ⟨h3, v, h2 v h4, h5, h6⟩
theorem ok_sNever {P : Program} {f : FuncId} : SumOk P f sNever := fun R args k r hr => by cases hr
theorem cxe_ok {P : Program} {l es : List (Nat × Sum)} (h : AllOk P l) (he : ∀ f g, tab es f = some g → ExtOk P f g) : (cxf fiReal P l es).Ok where
  fair := fiReal_fair
  sums := fun f g hg => tab_ok h f g hg
  exts := he
  meths := fun t s f hf => by cases hf
  nan1 := fun f hf => by cases hf
  hs := fun f args H v h => by cases h
theorem sumOk_exts {P : Program} {l es : List (Nat × Sum)} (hm : P.follows .mixedOrders = true) (h : AllOk P l) (he : ∀ f g, tab es f = some g → ExtOk P f g) {n : Nat} {f : FuncId} {g : Sum}
    (hg : ∀ (R : Type) (args : List Value) (k : Value → Option R) (r : R), g R args k = some r → inns 0 args = true ∧ evFn (cxf fiReal P l es) n f args k = some r) : SumOk P f g := by
  intro R args k r h1
  obtain ⟨h2, h3⟩ := hg R args k r h1
  exact ⟨h2, evFn_sound (cxe_ok h he) hm h3 h2⟩
section shapes
variable {P : Program} {l : List (Nat × Sum)} {n : Nat} {f : FuncId}
theorem ok_sInf {g : KFB} (hm : P.follows .mixedOrders = true) (h : AllOk P l)
    (hg : ∀ (R : Type) a (k : Value → Option R), evFn (cx P l) n f [.float .f64 a, .int .i64 0] k = g R a fun t => k (.bool t)) : SumOk P f (sInf g) :=
  sumOk_of hm h (n := n) fun R args k r hr => by
    unfold sInf at hr; split at hr
    · rename_i a s
      cases hi : (s == 0) with
      | false => rw [hi] at hr; cases hr
      | true =>
        rw [hi] at hr
        have : s = 0 := by simpa using hi
        subst this
        exact ⟨rfl, by rw [hg]; simpa only [forceB_eq, cond_true] using hr⟩
    · cases hr
theorem ok_sFFI {g : KFFI} (hm : P.follows .mixedOrders = true) (h : AllOk P l)
    (hg : ∀ (R : Type) a (k : Value → Option R), evFn (cx P l) n f [.float .f64 a] k = g R a fun x e => k (.tuple ⟨[.float .f64 x, .int .i64 e]⟩)) : SumOk P f (sFFI g) :=
  sumOk_of hm h (n := n) fun R args k r hr => by
    unfold sFFI at hr; split at hr
    · exact ⟨rfl, by rw [hg]; exact hr⟩
    · cases hr
theorem ok_sFIF {g : KFIF} (hm : P.follows .mixedOrders = true) (h : AllOk P l)
    (hg : ∀ (R : Type) a e (k : Value → Option R), evFn (cx P l) n f [.float .f64 a, .int .i64 e] k = g R a e fun x => k (.float .f64 x)) : SumOk P f (sFIF g) :=
  sumOk_of hm h (n := n) fun R args k r hr => by
    unfold sFIF at hr; split at hr
    · exact ⟨rfl, by rw [hg]; exact hr⟩
    · cases hr
theorem ok_sFFF {g : KFFF} (hm : P.follows .mixedOrders = true) (h : AllOk P l)
    (hg : ∀ (R : Type) a b (k : Value → Option R), evFn (cx P l) n f [.float .f64 a, .float .f64 b] k = g R a b fun x => k (.float .f64 x)) : SumOk P f (sFFF g) :=
  sumOk_of hm h (n := n) fun R args k r hr => by
    unfold sFFF at hr; split at hr
    · exact ⟨rfl, by rw [hg]; exact hr⟩
    · cases hr
theorem ok_sCF {g : KCF} (hm : P.follows .mixedOrders = true) (h : AllOk P l)
    (hg : ∀ (R : Type) a b (k : Value → Option R), evFn (cx P l) n f [.complex .f64 a b] k = g R a b fun x => k (.float .f64 x)) : SumOk P f (sCF g) :=
  sumOk_of hm h (n := n) fun R args k r hr => by
    unfold sCF at hr; split at hr
    · exact ⟨rfl, by rw [hg]; exact hr⟩
    · cases hr
theorem ok_sCCI {g : KCCI} (hm : P.follows .mixedOrders = true) (h : AllOk P l)
    (hg : ∀ (R : Type) a b (k : Value → Option R), evFn (cx P l) n f [.complex .f64 a b] k = g R a b fun x y e => k (.tuple ⟨[.complex .f64 x y, .int .i64 e]⟩)) : SumOk P f (sCCI g) :=
  sumOk_of hm h (n := n) fun R args k r hr => by
    unfold sCCI at hr; split at hr
    · exact ⟨rfl, by rw [hg]; exact hr⟩
    · cases hr
theorem ok_sCCFB {g : KCCFB} (hm : P.follows .mixedOrders = true) (h : AllOk P l)
    (hg : ∀ (R : Type) a b c d m (k : Value → Option R), evFn (cx P l) n f [.complex .f64 a b, .complex .f64 c d, .float .f64 m] k = g R a b c d m fun t => k (.bool t)) : SumOk P f (sCCFB g) :=
  sumOk_of hm h (n := n) fun R args k r hr => by
    unfold sCCFB at hr; split at hr
    · exact ⟨rfl, by rw [hg]; simpa only [forceB_eq] using hr⟩
    · cases hr
theorem ok_sTB {g : KTB} (hm : P.follows .mixedOrders = true) (h : AllOk P l)
    (hg : ∀ (R : Type) t (k : Value → Option R), evFn (cx P l) n f [tv t] k = g R t fun t => k (.bool t)) : SumOk P f (sTB g) :=
  sumOk_of hm h (n := n) fun R args k r hr => by
    unfold sTB at hr; split at hr
    · obtain ⟨t, rfl, hx⟩ := oneT_some hr
      exact ⟨rfl, by rw [hg]; simpa only [forceB_eq] using hx⟩
    · cases hr
theorem ok_sTM {g : KTM} (hm : P.follows .mixedOrders = true) (h : AllOk P l)
    (hg : ∀ (R : Type) t (k : Value → Option R), evFn (cx P l) n f [tv t] k = g R t (mErr k) (mOk k)) : SumOk P f (sTM g) :=
  sumOk_of hm h (n := n) fun R args k r hr => by
    unfold sTM at hr; split at hr
    · obtain ⟨t, rfl, hx⟩ := oneT_some hr
      exact ⟨rfl, by rw [hg]; exact hx⟩
    · cases hr
theorem ok_sMZC {g : KMZC} (hm : P.follows .mixedOrders = true) (h : AllOk P l)
    (hg : ∀ (R : Type) (m : Mp) a b (k : Value → Option R), evFn (cx P l) n f [mv 1 m, .complex .f64 a b] k = g R m a b fun x y => k (.complex .f64 x y)) : SumOk P f (sMZC g) :=
  sumOk_of hm h (n := n) fun R args k r hr => by
    unfold sMZC at hr; split at hr
    · obtain ⟨i, m, rfl, hx⟩ := oneM_some hr
      cases hi : (i == 1) with
      | false => rw [hi] at hx; cases hx
      | true =>
        rw [hi] at hx
        have : i = 1 := by simpa using hi
        subst this
        exact ⟨rfl, by rw [hg]; exact hx⟩
    · cases hr
def sTTMp (g : KTTM) : Sum := fun R args k => match args with
  | [v, u] => oneT v fun l => oneT u fun n => g R l n (fun e => k (.tuple ⟨[mv 0 zm, .int .i64 e]⟩)) (mOk k)
  | _ => none
def sMZp (g : KMZ) : Sum := fun R args k => match args with
  | [v, .complex .f64 a b] => oneM v fun i m => bif i == 1 then g R m a b (fun e => k (.tuple ⟨[.complex .f64 0 0, .int .i64 e]⟩)) (zOk k) else none
  | _ => none
theorem ok_sTTMp {g : KTTM} (hm : P.follows .mixedOrders = true) (h : AllOk P l)
    (hg : ∀ (R : Type) t u (k : Value → Option R), evFn (cx P l) n f [tv t, tv u] k = g R t u (fun e => k (.tuple ⟨[mv 0 zm, .int .i64 e]⟩)) (mOk k)) : SumOk P f (sTTMp g) :=
  sumOk_of hm h (n := n) fun R args k r hr => by
    unfold sTTMp at hr; split at hr
    · obtain ⟨t, rfl, hx⟩ := oneT_some hr
      obtain ⟨u, rfl, hy⟩ := oneT_some hx
      exact ⟨rfl, by rw [hg]; exact hy⟩
    · cases hr
theorem ok_sMZp {g : KMZ} (hm : P.follows .mixedOrders = true) (h : AllOk P l)
    (hg : ∀ (R : Type) (m : Mp) a b (k : Value → Option R), evFn (cx P l) n f [mv 1 m, .complex .f64 a b] k = g R m a b (fun e => k (.tuple ⟨[.complex .f64 0 0, .int .i64 e]⟩)) (zOk k)) : SumOk P f (sMZp g) :=
  sumOk_of hm h (n := n) fun R args k r hr => by
    unfold sMZp at hr; split at hr
    · obtain ⟨i, m, rfl, hx⟩ := oneM_some hr
      cases hi : (i == 1) with
      | false => rw [hi] at hx; cases hx
      | true =>
        rw [hi] at hx
        have : i = 1 := by simpa using hi
        subst this
        exact ⟨rfl, by rw [hg]; exact hx⟩
    · cases hr
def tellM {R : Type} (k : Value → Option R) (v : Value) : Option R := match v with
  | .tuple ⟨[.agg ⟨[.int .u8 0, .complex .f64 0 0, .complex .f64 0 0, .complex .f64 0 0, .complex .f64 0 0, .float .f64 0]⟩, .int .i64 e]⟩ => mErr k e
  | v => k v
theorem tellM_some {R : Type} {k : Value → Option R} {v : Value} {r : R} (h : tellM k v = some r) : k v = some r := by
  unfold tellM at h
  split at h
  · exact errIn_some h
  · exact h
theorem sMM2_of {g : KMM} (h : SumOk P f (sMM g)) : SumOk P f (sMM2 g) := h.weak fun R args k r hr => by
  refine ⟨tellM k, ?_, fun v hv => tellM_some hv⟩
  unfold sMM2 at hr; split at hr
  · exact hr
  · cases hr
theorem sMMM2_of {g : KMMM} (h : SumOk P f (sMMM g)) : SumOk P f (sMMM2 g) := h.weak fun R args k r hr => by
  refine ⟨tellM k, ?_, fun v hv => tellM_some hv⟩
  unfold sMMM2 at hr; split at hr
  · exact hr
  · cases hr
theorem sTTM_of {g : KTTM} (h : SumOk P f (sTTMp g)) : SumOk P f (sTTM g) := h.weak fun R args k r hr => by
  refine ⟨tellM k, ?_, fun v hv => tellM_some hv⟩
  unfold sTTM at hr; split at hr
  · exact hr
  · cases hr
end shapes
theorem zErr_5 {R : Type} (k : Value → Option R) : zErr k 5 = k (.tuple ⟨[.complex .f64 0 0, .int .i64 5]⟩) := rfl
theorem zErr_6 {R : Type} (k : Value → Option R) : zErr k 6 = k (.tuple ⟨[.complex .f64 0 0, .int .i64 6]⟩) := rfl
theorem zErr_180 {R : Type} (k : Value → Option R) : zErr k 180 = k (.tuple ⟨[.complex .f64 0 0, .int .i64 180]⟩) := rfl
theorem errIn_z {R : Type} (k : Value → Option R) (e : Int) : errIn [5, 6, 180] e (zErr k) = errIn [5, 6, 180] e (fun e => k (.tuple ⟨[.complex .f64 0 0, .int .i64 e]⟩)) := rfl
theorem h69 : Has Try.prog 69 := ⟨Try.f69, _, Try.func69, by kernel_rfl, rfl⟩
theorem h74 : Has Try.prog 74 := ⟨Try.f74, _, Try.func74, by kernel_rfl, rfl⟩
theorem h91 : Has Try.prog 91 := ⟨Try.f91, _, Try.func91, by kernel_rfl, rfl⟩
theorem h88 : Has Try.prog 88 := ⟨Try.f88, _, Try.func88, by kernel_rfl, rfl⟩
theorem h83 : Has Try.prog 83 := ⟨Try.f83, _, Try.func83, by kernel_rfl, rfl⟩
theorem h72 : Has Try.prog 72 := ⟨Try.f72, _, Try.func72, by kernel_rfl, rfl⟩
theorem h16 : Has Try.prog 16 := ⟨Try.f16, _, Try.func16, by kernel_rfl, rfl⟩
theorem h90 : Has Try.prog 90 := ⟨Try.f90, _, Try.func90, by kernel_rfl, rfl⟩
theorem h84 : Has Try.prog 84 := ⟨Try.f84, _, Try.func84, by kernel_rfl, rfl⟩
theorem h77 : Has Try.prog 77 := ⟨Try.f77, _, Try.func77, by kernel_rfl, rfl⟩
theorem h75 : Has Try.prog 75 := ⟨Try.f75, _, Try.func75, by kernel_rfl, rfl⟩
theorem h76 : Has Try.prog 76 := ⟨Try.f76, _, Try.func76, by kernel_rfl, rfl⟩
theorem h79 : Has Try.prog 79 := ⟨Try.f79, _, Try.func79, by kernel_rfl, rfl⟩
theorem h78 : Has Try.prog 78 := ⟨Try.f78, _, Try.func78, by kernel_rfl, rfl⟩
theorem h66 : Has Try.prog 66 := ⟨Try.f66, _, Try.func66, by kernel_rfl, rfl⟩
theorem h39 : Has Try.prog 39 := ⟨Try.f39, _, Try.func39, by kernel_rfl, rfl⟩
theorem h33 : Has Try.prog 33 := ⟨Try.f33, _, Try.func33, by kernel_rfl, rfl⟩
theorem h62 : Has Try.prog 62 := ⟨Try.f62, _, Try.func62, by kernel_rfl, rfl⟩
theorem h71 : Has Try.prog 71 := ⟨Try.f71, _, Try.func71, by kernel_rfl, rfl⟩
theorem h70 : Has Try.prog 70 := ⟨Try.f70, _, Try.func70, by kernel_rfl, rfl⟩
theorem k69 : SumOk Try.prog 69 (sInf isInfK) := ok_sInf zm_ok (.cons k31 h31 .nil) (z_isInf _)
theorem k74 : SumOk Try.prog 74 (sFB isNanK) := ok_sFB zm_ok .nil z_isNan
theorem k91 : SumOk Try.prog 91 (sFFI normK) := ok_sFFI zm_ok (.cons k31 h31 .nil) (z_norm _)
theorem k88 : SumOk Try.prog 88 (sFFI frexpK) := ok_sFFI zm_ok (.cons k69 h69 (.cons k74 h74 (.cons k91 h91 .nil))) (z_frexp fiReal _ _ _)
theorem k83 : SumOk Try.prog 83 (sFFI frexpK) := ok_sFFI zm_ok (.cons k88 h88 .nil) (z_Frexp _)
theorem k72 : SumOk Try.prog 72 (sFFI frexpK) := ok_sFFI zm_ok (.cons k83 h83 .nil) (z_Parts _)
theorem k16 : SumOk Try.prog 16 (sFFF copyK) := ok_sFFF zm_ok .nil z_copy
theorem k71 : SumOk Try.prog 71 sNever := ok_sNever
theorem k70 : SumOk Try.prog 70 sNever := ok_sNever
theorem k90 : SumOk Try.prog 90 (sFIF ldexpK) := ok_sFIF zm_ok (.cons k69 h69 (.cons k74 h74 (.cons k91 h91 (.cons k16 h16 (.cons k71 h71 .nil))))) (z_ldexp fiReal _ _ _ _)
theorem k84 : SumOk Try.prog 84 (sFIF ldexpK) := ok_sFIF zm_ok (.cons k90 h90 .nil) (z_Ldexp _)
theorem k77 : SumOk Try.prog 77 (sFIF scaleK) := ok_sFIF zm_ok (.cons k84 h84 .nil) (z_scale _)
theorem k75 : SumOk Try.prog 75 (sCF greatestK) := ok_sCF zm_ok (.cons k31 h31 .nil) (z_greatest _)
theorem k76 : SumOk Try.prog 76 (sCCI scaledK) := ok_sCCI zm_ok (.cons k75 h75 (.cons k72 h72 (.cons k77 h77 .nil))) (z_scaled _ _ _)
theorem k79 : SumOk Try.prog 79 (sCF squareK) := ok_sCF zm_ok .nil z_square
theorem z_sqrt (rt : KFF) (R : Type) a (k : Value → Option R) : evFn (cxf fiReal Try.prog [] [(85, sFF rt)]) 20 78 [.float .f64 a] k = rt R a fun x => k (.float .f64 x) := by kernel_rfl
theorem run_85 (a r : Nat) (h : Ieee.double.sqrt a = some r) (w : World) : (callFunc 85 #[.float .f64 a]).run Try.prog w = .ok (.value (.float .f64 r)) w := by
  have h1 : Try.prog.funcs[85]? = some Try.f85 := Try.func85
  have h2 : (Try.f85.name == "runtime.NumGoroutine") = false := by kernel_rfl
  have h3 : Try.f85.body.isNone = true := by kernel_rfl
  have h4 : Extern.find Try.f85 = some Extern.MathSqrt.sqrt := by kernel_rfl
  have h5 : (Extern.findNext Try.f85).isNone = true := by kernel_rfl
  have h5' : Extern.findNext Try.f85 = none := by simpa using h5
  have h6 : Extern.MathSqrt.sqrt #[.float .f64 a] = pure (.float .f64 r) := by
    show (match Ieee.double.sqrt a with | some r => _ | none => _) = _
    rw [h]
  unfold callFunc
  have h2' : Try.f85.name ≠ "runtime.NumGoroutine" := by simpa using h2
  have h3' : Try.f85.body = none := by simpa using h3
  simp [Sem.run_bind, h1, h2', h3', h4, h5', h6]
theorem e85 : ExtOk Try.prog 85 (sFF sqrtK) := by
  intro R args k r hr
  unfold sFF at hr; split at hr
  · rename_i a
    unfold sqrtK at hr
    cases hs : Ieee.double.sqrt a with
    | none => rw [hs] at hr; cases hr
    | some x =>
      rw [bindF_eq hs] at hr
      exact ⟨rfl, _, hr, rfl, fun w => run_85 a x hs w⟩
  · cases hr
theorem k78 : SumOk Try.prog 78 (sFF sqrtK) := sumOk_exts (l := []) (es := [(85, sFF sqrtK)]) (n := 20) zm_ok .nil
  (fun f g h => by
    unfold tab at h
    cases hb : Nat.beq 85 f with
    | true =>
      rw [hb] at h; cases h
      rw [← Nat.eq_of_beq_eq_true hb]; exact e85
    | false => rw [hb] at h; cases h)
  fun R args k r hr => by
    unfold sFF at hr; split at hr
    · exact ⟨rfl, by rw [z_sqrt]; exact hr⟩
    · cases hr
theorem k66 : SumOk Try.prog 66 (sCF lengthK) :=
  ok_sCF zm_ok (.cons k69 h69 (.cons k74 h74 (.cons k75 h75 (.cons k76 h76 (.cons k79 h79 (.cons k78 h78 (.cons k77 h77 (.cons k71 h71 (.cons k70 h70 .nil))))))))) (z_length _ _ _ _ _ _ _)
theorem k39 : SumOk Try.prog 39 (sFB finiteK) := ok_sFB zm_ok (.cons k31 h31 .nil) (z_finite _)
theorem k33 : SumOk Try.prog 33 (sCB FiniteK) := ok_sCB zm_ok (.cons k39 h39 .nil) (z_Finite _)
theorem k62 : SumOk Try.prog 62 (sCCC divK) := ok_sCCC zm_ok (.cons k31 h31 .nil) (z_div _)
def sBk (t : Bool) (kind : Int) (L : List Int) (g : KMZ) : Sum := fun R args k => match args with
  | [v, .complex .f64 a b, .bool u] => oneM v fun i m => bif u == t && i == kind then g R m a b (zErrL L k) (zOk k) else none
  | _ => none
section shapes
variable {P : Program} {l : List (Nat × Sum)} {n : Nat} {f : FuncId}
theorem SumOk.or {s s1 s2 : Sum} (h1 : SumOk P f s1) (h2 : SumOk P f s2) (h : ∀ (R : Type) (args : List Value) (k : Value → Option R) (r : R), s R args k = some r → s1 R args k = some r ∨ s2 R args k = some r) : SumOk P f s := by
  intro R args k r hr
  rcases h R args k r hr with g | g
  · exact h1 R args k r g
  · exact h2 R args k r g
theorem ok_sInf1 {s : Int} {g : KFB} (hm : P.follows .mixedOrders = true) (h : AllOk P l)
    (hg : ∀ (R : Type) a (k : Value → Option R), evFn (cx P l) n f [.float .f64 a, .int .i64 s] k = g R a fun t => k (.bool t)) :
    SumOk P f (fun R args k => match args with
      | [.float .f64 a, .int .i64 u] => bif u == s then g R a fun t => forceB t fun t => k (.bool t) else none
      | _ => none) :=
  sumOk_of hm h (n := n) fun R args k r hr => by
    split at hr
    · rename_i a u
      cases hi : (u == s) with
      | false => rw [hi] at hr; cases hr
      | true =>
        rw [hi] at hr
        have : u = s := by simpa using hi
        subst this
        exact ⟨rfl, by rw [hg]; simpa only [forceB_eq, cond_true] using hr⟩
    · cases hr
theorem ok_sInfW (hm : P.follows .mixedOrders = true) (h : AllOk P l)
    (hg : ∀ (R : Type) (k : Value → Option R), evFn (cx P l) n f [.int .i64 1] k = k (.float .f64 9218868437227405312)) : SumOk P f sInfW :=
  sumOk_of hm h (n := n) fun R args k r hr => by
    unfold sInfW at hr; split at hr
    · rename_i u
      cases hi : (u == 1) with
      | false => rw [hi] at hr; cases hr
      | true =>
        rw [hi] at hr
        have : u = 1 := by simpa using hi
        subst this
        exact ⟨rfl, by rw [hg]; exact hr⟩
    · cases hr
theorem ok_sFFCB {g : KFFCB} (hm : P.follows .mixedOrders = true) (h : AllOk P l)
    (hg : ∀ (R : Type) a b (k : Value → Option R), evFn (cx P l) n f [.float .f64 a, .float .f64 b] k = g R a b fun x y t => k (.tuple ⟨[.complex .f64 x y, .bool t]⟩)) : SumOk P f (sFFCB g) :=
  sumOk_of hm h (n := n) fun R args k r hr => by
    unfold sFFCB at hr; split at hr
    · exact ⟨rfl, by rw [hg]; simpa only [forceB_eq] using hr⟩
    · cases hr
theorem ok_sCFC {g : KCFC} (hm : P.follows .mixedOrders = true) (h : AllOk P l)
    (hg : ∀ (R : Type) a b c (k : Value → Option R), evFn (cx P l) n f [.complex .f64 a b, .float .f64 c] k = g R a b c fun x y => k (.complex .f64 x y)) : SumOk P f (sCFC g) :=
  sumOk_of hm h (n := n) fun R args k r hr => by
    unfold sCFC at hr; split at hr
    · exact ⟨rfl, by rw [hg]; exact hr⟩
    · cases hr
theorem ok_sM2C {g : KMC} (hm : P.follows .mixedOrders = true) (h : AllOk P l)
    (hg : ∀ (R : Type) (m : Mp) (k : Value → Option R), evFn (cx P l) n f [mv 2 m] k = g R m fun x y => k (.complex .f64 x y)) : SumOk P f (sM2C g) :=
  sumOk_of hm h (n := n) fun R args k r hr => by
    unfold sM2C at hr; split at hr
    · obtain ⟨i, m, rfl, hx⟩ := oneM_some hr
      cases hi : (i == 2) with
      | false => rw [hi] at hx; cases hx
      | true =>
        rw [hi] at hx
        have : i = 2 := by simpa using hi
        subst this
        exact ⟨rfl, by rw [hg]; exact hx⟩
    · cases hr
theorem ok_sMZL {L : List Int} {kind : Int} {g : KMZ} (hm : P.follows .mixedOrders = true) (h : AllOk P l)
    (hg : ∀ (R : Type) (m : Mp) a b (k : Value → Option R), evFn (cx P l) n f [mv kind m, .complex .f64 a b] k = g R m a b (zErrL L k) (zOk k)) : SumOk P f (sMZL L kind g) :=
  sumOk_of hm h (n := n) fun R args k r hr => by
    unfold sMZL at hr; split at hr
    · obtain ⟨i, m, rfl, hx⟩ := oneM_some hr
      cases hi : (i == kind) with
      | false => rw [hi] at hx; cases hx
      | true =>
        rw [hi] at hx
        have : i = kind := by simpa using hi
        subst this
        exact ⟨rfl, by rw [hg]; exact hx⟩
    · cases hr
theorem ok_sBk {t : Bool} {L : List Int} {kind : Int} {g : KMZ} (hm : P.follows .mixedOrders = true) (h : AllOk P l)
    (hg : ∀ (R : Type) (m : Mp) a b (k : Value → Option R), evFn (cx P l) n f [mv kind m, .complex .f64 a b, .bool t] k = g R m a b (zErrL L k) (zOk k)) : SumOk P f (sBk t kind L g) :=
  sumOk_of hm h (n := n) fun R args k r hr => by
    unfold sBk at hr; split at hr
    · rename_i u
      obtain ⟨i, m, rfl, hx⟩ := oneM_some hr
      cases hi : (u == t && i == kind) with
      | false => rw [hi] at hx; cases hx
      | true =>
        rw [hi] at hx
        obtain ⟨rfl, rfl⟩ : u = t ∧ i = kind := by simpa using hi
        exact ⟨rfl, by rw [hg]; exact hx⟩
    · cases hr
end shapes
theorem chk2_told (pl no : KCB) (wi : KFFB) (R : Type) (m : Mp) (F : Int → Option R) : chk2B pl no wi R m F = chk2B pl no wi R m (fun e => errIn [0, 5, 180] e F) := by kernel_rfl
theorem atL_told6 {chk : KMI} (pl : KCB) (mo : KMZ) (fin : KCB) (hc : ∀ (R : Type) (m : Mp) (F : Int → Option R), chk R m F = chk R m (fun e => errIn [0, 5, 180] e F))
    (R : Type) (m : Mp) (a b : Nat) (k : Value → Option R) (kk : Nat → Nat → Option R) :
    atLB [6] chk pl mo fin R m a b (zErrL [5, 6, 180] k) kk = atLB [6] chk pl mo fin R m a b (fun e => k (.tuple ⟨[.complex .f64 0 0, .int .i64 e]⟩)) kk := by
  unfold atLB
  rw [hc]
  refine Eq.trans ?_ (hc R m _).symm
  congr 1
theorem atL_told181 {chk : KMI} (pl : KCB) (mo : KMZ) (fin : KCB) (hc : ∀ (R : Type) (m : Mp) (F : Int → Option R), chk R m F = chk R m (fun e => errIn [0, 5, 180] e F))
    (R : Type) (m : Mp) (a b : Nat) (k : Value → Option R) (kk : Nat → Nat → Option R) :
    atLB [181] chk pl mo fin R m a b (zErrL [5, 6, 180, 181] k) kk = atLB [181] chk pl mo fin R m a b (fun e => k (.tuple ⟨[.complex .f64 0 0, .int .i64 e]⟩)) kk := by
  unfold atLB
  rw [hc]
  refine Eq.trans ?_ (hc R m _).symm
  congr 1
theorem atL_told0 {chk : KMI} (pl : KCB) (mo : KMZ) (fin : KCB) (hc : ∀ (R : Type) (m : Mp) (F : Int → Option R), chk R m F = chk R m (fun e => errIn [0, 5, 180] e F))
    (R : Type) (m : Mp) (a b : Nat) (k : Value → Option R) (kk : Nat → Nat → Option R) :
    atLB [] chk pl mo fin R m a b (zErrL [5, 6, 180] k) kk = atLB [] chk pl mo fin R m a b (fun e => k (.tuple ⟨[.complex .f64 0 0, .int .i64 e]⟩)) kk := by
  unfold atLB
  rw [hc]
  refine Eq.trans ?_ (hc R m _).symm
  congr 1
theorem h36 : Has Try.prog 36 := ⟨Try.f36, _, Try.func36, by kernel_rfl, rfl⟩
theorem k69' : SumOk Try.prog 69 (sInf3 isInfK isInfPK isInfMK) := by
  intro R args k r hr
  unfold sInf3 at hr
  split at hr
  · rename_i a s
    cases h0 : (s == 0) with
    | true => exact ok_sInf1 zm_ok (.cons k31 h31 .nil) (z_inf0 absK) R _ k r (by rw [h0] at hr; show (bif s == 0 then _ else _) = _; rw [h0]; exact hr)
    | false =>
      cases h1 : (s == 1) with
      | true => exact ok_sInf1 zm_ok (.cons k31 h31 .nil) (z_infP absK) R _ k r (by rw [h0, h1] at hr; show (bif s == 1 then _ else _) = _; rw [h1]; exact hr)
      | false =>
        cases h2 : (s == -1) with
        | true => exact ok_sInf1 zm_ok (.cons k31 h31 .nil) (z_infM absK) R _ k r (by rw [h0, h1, h2] at hr; show (bif s == -1 then _ else _) = _; rw [h2]; exact hr)
        | false => rw [h0, h1, h2] at hr; cases hr
  · cases hr
theorem k71' : SumOk Try.prog 71 sInfW := ok_sInfW zm_ok .nil z_Inf
theorem k36 : SumOk Try.prog 36 (sCFC sclK) := ok_sCFC zm_ok .nil z_scl
theorem run_ext {P : Program} {f : FuncId} {fn : Func} {ext : Array Value → Sem Value} (h1 : P.funcs[f]? = some fn) (h2 : (fn.name == "runtime.NumGoroutine") = false) (h3 : fn.body.isNone = true)
    (h4 : Extern.find fn = some ext) (h5 : (Extern.findNext fn).isNone = true) {args : Array Value} {v : Value} (h6 : ext args = pure v) (w : World) : (callFunc f args).run P w = .ok (.value v) w := by
  have h5' : Extern.findNext fn = none := by simpa using h5
  have h2' : fn.name ≠ "runtime.NumGoroutine" := by simpa using h2
  have h3' : fn.body = none := by simpa using h3
  unfold callFunc
  simp [Sem.run_bind, h1, h2', h3', h4, h5', h6]
theorem e25 : ExtOk Try.prog 25 xFrom := by
  intro R args k r hr
  unfold xFrom at hr; split at hr
  · rename_i n
    rw [forceN_eq] at hr
    exact ⟨rfl, _, hr, rfl, fun w => run_ext Try.func25 (by kernel_rfl) (by kernel_rfl) (show Extern.find Try.f25 = some Extern.MathFloatBits.float64frombits by kernel_rfl) (by kernel_rfl) rfl w⟩
  · cases hr
theorem e26 : ExtOk Try.prog 26 xBits := by
  intro R args k r hr
  unfold xBits at hr; split at hr
  · rename_i b
    rw [fiReal_fair] at hr
    exact ⟨rfl, _, hr, rfl, fun w => run_ext Try.func26 (by kernel_rfl) (by kernel_rfl) (show Extern.find Try.f26 = some Extern.MathFloatBits.float64bits by kernel_rfl) (by kernel_rfl) rfl w⟩
  · cases hr
theorem whole_run {name : String} {way : Ieee.Toward} {x : Nat} {d : Ieee.Datum} (h : Ieee.double.read x = d) (hd : ∀ s t, d ≠ .nan s t) :
    Extern.MathFloor.toIntegral name way #[.float .f64 x] = pure (.float .f64 (Ieee.double.write (d.integral way))) := by
  show (match Ieee.double.read x with | .nan s t => _ | d => pure (Value.float .f64 (Ieee.double.write (d.integral way)))) = _
  rw [h]
  cases d with
  | number s m e => rfl
  | infinity s => rfl
  | nan s t => exact absurd rfl (hd s t)
theorem e107 : ExtOk Try.prog 107 (xWhole .even) := by
  intro R args k r hr
  unfold xWhole at hr; split at hr
  · rename_i x
    split at hr
    · cases hr
    · rename_i d hd
      rw [forceN_eq] at hr
      exact ⟨rfl, _, hr, rfl, fun w => run_ext Try.func107 (by kernel_rfl) (by kernel_rfl) (show Extern.find Try.f107 = some (Extern.MathFloor.toIntegral "math.RoundToEven" .even) by kernel_rfl) (by kernel_rfl) (whole_run rfl hd) w⟩
  · cases hr
theorem e37 : ExtOk Try.prog 37 (xWhole .zero) := by
  intro R args k r hr
  unfold xWhole at hr; split at hr
  · rename_i x
    split at hr
    · cases hr
    · rename_i d hd
      rw [forceN_eq] at hr
      exact ⟨rfl, _, hr, rfl, fun w => run_ext Try.func37 (by kernel_rfl) (by kernel_rfl) (show Extern.find Try.f37 = some (Extern.MathFloor.toIntegral "math.archTrunc" .zero) by kernel_rfl) (by kernel_rfl) (whole_run rfl hd) w⟩
  · cases hr
inductive ExtsOk (P : Program) : List (Nat × Sum) → Prop
  | nil : ExtsOk P []
  | cons {f : Nat} {g : Sum} {r : List (Nat × Sum)} (h : ExtOk P f g) (hr : ExtsOk P r) : ExtsOk P ((f, g) :: r)
theorem exts_ok {P : Program} : ∀ {l : List (Nat × Sum)}, ExtsOk P l → ∀ f g, tab l f = some g → ExtOk P f g
  | _, .nil, f, g, h => by simp [tab] at h
  | _, .cons (f := n) h hr, f, g, h' => by
    unfold tab at h'
    cases hb : Nat.beq n f with
    | true =>
      rw [hb] at h'
      cases h'
      rw [Nat.eq_of_beq_eq_true hb] at h
      exact h
    | false => rw [hb] at h'; exact exts_ok hr f g h'
theorem h40 : Has Try.prog 40 := ⟨Try.f40, _, Try.func40, by kernel_rfl, rfl⟩
theorem h80 : Has Try.prog 80 := ⟨Try.f80, _, Try.func80, by kernel_rfl, rfl⟩
theorem h73 : Has Try.prog 73 := ⟨Try.f73, _, Try.func73, by kernel_rfl, rfl⟩
theorem h65 : Has Try.prog 65 := ⟨Try.f65, _, Try.func65, by kernel_rfl, rfl⟩
theorem h86 : Has Try.prog 86 := ⟨Try.f86, _, Try.func86, by kernel_rfl, rfl⟩
theorem h81 : Has Try.prog 81 := ⟨Try.f81, _, Try.func81, by kernel_rfl, rfl⟩
theorem h82 : Has Try.prog 82 := ⟨Try.f82, _, Try.func82, by kernel_rfl, rfl⟩
theorem h67 : Has Try.prog 67 := ⟨Try.f67, _, Try.func67, by kernel_rfl, rfl⟩
theorem h61 : Has Try.prog 61 := ⟨Try.f61, _, Try.func61, by kernel_rfl, rfl⟩
theorem k40 : SumOk Try.prog 40 sPi := sumOk_of zm_ok .nil (n := 60) fun R args k r hr => by
  unfold sPi at hr; split at hr
  · exact ⟨rfl, by rw [z_pi]; exact hr⟩
  · cases hr
theorem z_Inf2 (R : Type) (k : Value → Option R) : evFn (cx Try.prog []) 40 71 [.int .i64 (-1)] k = k (.float .f64 18442240474082181120) := by kernel_rfl
theorem k71'' : SumOk Try.prog 71 sInfW2 := sumOk_of zm_ok .nil (n := 40) fun R args k r hr => by
  unfold sInfW2 at hr; split at hr
  · rename_i s
    cases h1 : (s == 1) with
    | true =>
      rw [h1] at hr
      have : s = 1 := by simpa using h1
      subst this
      exact ⟨rfl, by rw [z_Inf]; exact hr⟩
    | false =>
      cases h2 : (s == -1) with
      | true =>
        rw [h1, h2] at hr
        have : s = -1 := by simpa using h2
        subst this
        exact ⟨rfl, by rw [z_Inf2]; exact hr⟩
      | false => rw [h1, h2] at hr; cases hr
  · cases hr
theorem k80 : SumOk Try.prog 80 (sFF coreK) := ok_sFF zm_ok (.cons k40 h40 .nil) z_core
theorem k73 : SumOk Try.prog 73 (sFF oddK) := ok_sFF zm_ok .nil z_odd
theorem k65 : SumOk Try.prog 65 (sFF logK) := ok_sFF zm_ok (.cons k69' h69 (.cons k70 h70 (.cons k71'' h71 (.cons k72 h72 (.cons k73 h73 .nil))))) (z_log fiReal _ _ _ _ _)
theorem k86 : SumOk Try.prog 86 (sFB signK) := ok_sFB zm_ok .nil (z_sign fiReal)
theorem k81 : SumOk Try.prog 81 (sFB minusK) := ok_sFB zm_ok (.cons k86 h86 .nil) (z_minus _)
theorem k82 : SumOk Try.prog 82 (sFFF signedK) := ok_sFFF zm_ok (.cons k81 h81 (.cons k31 h31 .nil)) (z_signed _ _)
theorem k67 : SumOk Try.prog 67 (sFFF angleK) :=
  ok_sFFF zm_ok (.cons k31 h31 (.cons k69' h69 (.cons k40 h40 (.cons k80 h80 (.cons k81 h81 (.cons k82 h82 (.cons k70 h70 .nil))))))) (z_angle _ _ _ _ _ _ _)
theorem k61 : SumOk Try.prog 61 (sCC powLogK) := ok_sCC zm_ok (.cons k66 h66 (.cons k65 h65 (.cons k67 h67 .nil))) (z_powLog _ _ _)
theorem h19 : Has Try.prog 19 := ⟨Try.f19, _, Try.func19, by kernel_rfl, rfl⟩
theorem h21 : Has Try.prog 21 := ⟨Try.f21, _, Try.func21, by kernel_rfl, rfl⟩
theorem h22 : Has Try.prog 22 := ⟨Try.f22, _, Try.func22, by kernel_rfl, rfl⟩
theorem h7 : Has Try.prog 7 := ⟨Try.f7, _, Try.func7, by kernel_rfl, rfl⟩
theorem h11 : Has Try.prog 11 := ⟨Try.f11, _, Try.func11, by kernel_rfl, rfl⟩
theorem h64 : Has Try.prog 64 := ⟨Try.f64, _, Try.func64, by kernel_rfl, rfl⟩
theorem h106 : Has Try.prog 106 := ⟨Try.f106, _, Try.func106, by kernel_rfl, rfl⟩
theorem k19 : SumOk Try.prog 19 (sCB placeK) := ok_sCB zm_ok (.cons k30 h30 .nil) (z_reals _)
theorem k21 : SumOk Try.prog 21 (sCB noughtK) := ok_sCB zm_ok .nil z_nought2
end Go.Vm
