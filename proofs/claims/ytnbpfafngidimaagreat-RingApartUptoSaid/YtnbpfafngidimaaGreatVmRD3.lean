/- A part of the evaluator and of what is told of floats; no conditions. The word of a whole number from 1 on is the only one of its value; no conditions. A whole word as an integer; no conditions. What is within a bound is a finite number; no conditions. A power that is its own whole part is a whole number, and its word is a given one from 1 to 8; no conditions. The check of an element, as a function of its kind, of whether its place is nought, and of its power; no conditions. Relative errors, and the words of Pi and of its inverse; no conditions. Whole numbers through ForceLift's functions; no conditions. The rest by 1000, nearness, and clean, of whole numbers; no conditions. -/
import Derived.Test.YtnbpfafngidimaaGreatVmRA9
import Derived.Test.YtnbpfafngidimaaGreatVmZH
import Derived.Test.YtnbpfafngidimaaGreatVmKM
import Derived.Test.YtnbpfafngidimaaGreatVmZ6
import Derived.Test.YtnbpfafngidimaaGreatVmRE0
namespace Go.Vm
open Go.Proofs
set_option linter.unusedVariables false
set_option linter.unusedSimpArgs false
set_option maxRecDepth 1000000

/-! ### RingApart: the loop over single elements, the end -/
/-- a part of a list -/
def cutB {R : Type} (n j : Nat) (i : Int) (k : Nat → Nat → Option R) : Option R :=
  (boundE (some (.int .i64 i)) n n).bind fun h => (boundE (some (.int .i64 (j : Int))) 0 h).bind fun l =>
    bif (Nat.blt l n || Nat.beq l 0) && Nat.ble l n && true then k h l else bif Nat.beq l n && Nat.beq h l && true then none else none
section
variable (L L1 L2 : Hand) (fi : Fi) (R : Type) (gi gk : GI) (gc : GC) (st : St) (ap : Ap) (sm : KG2B) (of : KG2C) (len : KCF) (sc : KCFC) (ti : KCC) (ne : KCCFB) (gr : HT) (q1 q2 q3 : MSum) (p1 p2 p3 : HSum) (cs es : List Value)
  (sz n c j c1 c2 rr t1 t2 m z1 z2 x1 x2 y1 y2 : Nat) (H : AH) (K : Ex → Env → Objs → Option R)
theorem mb_round_5 : evTop (maC la6 fi gi gk gc st ap sm of len sc ti ne [(36, saysV (roV y1 y2 0) gr)] []) 60 noL 1 232 maB (mbE j t1 t2 m z1 z2 x1 x2) ⟨5, maD es n c1 c2 rr ++ [(0, .cells cs sz)]⟩ (takeC [29, 8, 10, 26, 27, 28, 24, 21, 22] [3, 4, 2] K) =
    bif decide ((j : Int) < n) then
      fi R (IntKind.i64.wrap ((j : Int) + 1)) fun i => cutB n j i fun h l => gr R [.agg ⟨[.slice (some ⟨2, 0 + l * 4, none⟩) (h - l) (n - l)]⟩, ciV c1 c2 rr] ⟨5, maD es n c1 c2 rr ++ [(0, .cells cs sz)]⟩ <|
        bindF (fbF .add t1 y1) fun t1 => bindF (fbF .add t2 y2) fun t2 =>
          bif decide (0 ≤ (j : Int)) && decide ((j : Int) < n) && true then gc R es (0 + j * 4 + 2) fun a b => len R a b fun l => bindF (fbF .add m l) fun m => fi R (IntKind.i64.wrap ((j : Int) + 1)) fun i => K .normal (mbE i t1 t2 m z1 z2 x1 x2) (maD es n c1 c2 rr) else none
    else K (.exit 2) (mbE j t1 t2 m z1 z2 x1 x2) (maD es n c1 c2 rr) := by kernel_rfl
theorem mb_round_6 : evTop (maC la6 fi gi gk gc st ap sm of len sc ti ne [(36, saysV (roV y1 y2 0) gr)] []) 60 noL 1 232 maB (mbE j t1 t2 m z1 z2 x1 x2) ⟨6, maD es n c1 c2 rr ++ [(0, .cells cs sz)]⟩ (takeC [29, 8, 10, 26, 27, 28, 24, 21, 22] [3, 4, 2] K) =
    bif decide ((j : Int) < n) then
      fi R (IntKind.i64.wrap ((j : Int) + 1)) fun i => cutB n j i fun h l => gr R [.agg ⟨[.slice (some ⟨2, 0 + l * 4, none⟩) (h - l) (n - l)]⟩, ciV c1 c2 rr] ⟨6, maD es n c1 c2 rr ++ [(0, .cells cs sz)]⟩ <|
        bindF (fbF .add t1 y1) fun t1 => bindF (fbF .add t2 y2) fun t2 =>
          bif decide (0 ≤ (j : Int)) && decide ((j : Int) < n) && true then gc R es (0 + j * 4 + 2) fun a b => len R a b fun l => bindF (fbF .add m l) fun m => fi R (IntKind.i64.wrap ((j : Int) + 1)) fun i => K .normal (mbE i t1 t2 m z1 z2 x1 x2) (maD es n c1 c2 rr) else none
    else K (.exit 2) (mbE j t1 t2 m z1 z2 x1 x2) (maD es n c1 c2 rr) := by kernel_rfl
theorem mb_round_7 : evTop (maC la6 fi gi gk gc st ap sm of len sc ti ne [(36, saysV (roV y1 y2 0) gr)] []) 60 noL 1 232 maB (mbE j t1 t2 m z1 z2 x1 x2) ⟨7, maD es n c1 c2 rr ++ [(0, .cells cs sz)]⟩ (takeC [29, 8, 10, 26, 27, 28, 24, 21, 22] [3, 4, 2] K) =
    bif decide ((j : Int) < n) then
      fi R (IntKind.i64.wrap ((j : Int) + 1)) fun i => cutB n j i fun h l => gr R [.agg ⟨[.slice (some ⟨2, 0 + l * 4, none⟩) (h - l) (n - l)]⟩, ciV c1 c2 rr] ⟨7, maD es n c1 c2 rr ++ [(0, .cells cs sz)]⟩ <|
        bindF (fbF .add t1 y1) fun t1 => bindF (fbF .add t2 y2) fun t2 =>
          bif decide (0 ≤ (j : Int)) && decide ((j : Int) < n) && true then gc R es (0 + j * 4 + 2) fun a b => len R a b fun l => bindF (fbF .add m l) fun m => fi R (IntKind.i64.wrap ((j : Int) + 1)) fun i => K .normal (mbE i t1 t2 m z1 z2 x1 x2) (maD es n c1 c2 rr) else none
    else K (.exit 2) (mbE j t1 t2 m z1 z2 x1 x2) (maD es n c1 c2 rr) := by kernel_rfl
theorem mb_end : evTop (maC la6 fi gi gk gc st ap sm of len sc ti ne [(30, p1), (36, p2), (37, p3)] [(31, q1), (34, q2), (35, q3)]) 60 L 1 232 (seqN 22 (codeOf 6)) (mbE j t1 t2 m z1 z2 x1 x2) H (takeC [6] [] K) =
    ti R z1 z2 fun a b => sc R a b 4618760256179416344 fun a b =>
      bif eqF t1 x1 then bif eqF t2 x2 then bindF (fbF .mul 4427038433705197568 m) fun m => ne R x1 x2 a b m fun t => bif t then K .ret [(6, .bool true)] [] else K .ret [(6, .bool false)] []
        else K .ret [(6, .bool false)] [] else K .ret [(6, .bool false)] [] := by kernel_rfl
end
end Go.Vm
namespace Go.Vm
open Go.Proofs
set_option linter.unusedVariables false
set_option linter.unusedSimpArgs false
set_option maxRecDepth 1000000

/-! ### RingApart: the other ways -/
/-- loops that are gone through as they come -/
def rollL (C : Cx) (n : Nat) : Hand := fun R lo sz a e H k => evCode C (n + 1) lo sz (.loop a) e H k
theorem rollL_ok {C : Cx} (hC : C.Ok) (hmix : C.P.follows .mixedOrders = true) (n : Nat) (a : Code) : LOk C.P (rollL C n) a := fun R lo sz e H k r h => by
  obtain ⟨ex, e', H', h1, h2⟩ := (evCode_sound hC hmix (n + 1)).1 lo sz (.loop a) e H k r h
  exact ⟨ex, e', H', h1, @h2⟩
section
variable (L L1 L2 : Hand) (fi : Fi) (R : Type) (gi gk : GI) (gc : GC) (st : St) (ap : Ap) (sm : KG2B) (of : KG2C) (len : KCF) (sc : KCFC) (ti : KCC) (ne : KCCFB) (ga g0 g1 g2 gx gy : HT) (mi : MT) (cs es : List Value)
  (sz n c : Nat) (x y r : Int) (K : Ex → Env → Objs → Option R)
theorem ma_bad : evTop (maC la0 fi gi gk gc st ap sm of len sc ti ne [(30, saysV (.bool true) ga)] [(31, saysM (ofV nilS false) g0)]) 60 L 1 232 (codeOf 6) (enumE 0 (maArgs n c x y r)) ⟨1, [(0, .cells cs sz)]⟩ (takeC [6] [] K) =
    (ga R [] ⟨2, [(1, .cells [.int .i16 x, .int .i16 y] 0), (0, .cells cs sz)]⟩ <| g0 R [.slice (some ⟨0, 0, none⟩) n c] ⟨2, [(1, .cells [.int .i16 x, .int .i16 y] 0), (0, .cells cs sz)]⟩ <| of R x y fun c1 c2 => forceN (floatOfInt .f64 r) fun rr =>
      bif decide ((n : Int) > 50) then K .ret [(6, .bool true)] [] else K .ret [(6, .bool true)] []) := by kernel_rfl
theorem ma_badc : evTop (maC la6 fi gi gk gc st ap sm of len sc ti ne [(30, saysV (.bool true) ga)] [(31, leavesV 4 (fun b => ofV (sl3 b n) false) mi)]) 60 L 1 232 (codeOf 6) (enumE 0 (maArgs n c x y r)) ⟨1, [(0, .cells cs sz)]⟩ (takeC [6] [] K) =
    (ga R [] ⟨2, [(1, .cells [.int .i16 x, .int .i16 y] 0), (0, .cells cs sz)]⟩ <| mi R [.slice (some ⟨0, 0, none⟩) n c] ⟨2, [(1, .cells [.int .i16 x, .int .i16 y] 0), (0, .cells cs sz)]⟩ fun es => of R x y fun c1 c2 => forceN (floatOfInt .f64 r) fun rr =>
      bif decide ((n : Int) > 50) then K .ret [(6, .bool true)] [] else K .ret [(6, .bool true)] []) := by kernel_rfl
theorem ma_err : evTop (maC la6 fi gi gk gc st ap sm of len sc ti ne [(30, saysV (.bool true) ga)] [(31, leavesV 4 (fun b => ofV (sl3 b n) true) mi), (34, saysM (thV_ nilS 210) g1), (35, saysM (thV_ nilS 210) g2)]) 60 L 1 232 (codeOf 6) (enumE 0 (maArgs n c x y r)) ⟨1, [(0, .cells cs sz)]⟩ (takeC [6] [] K) =
    (ga R [] ⟨2, [(1, .cells [.int .i16 x, .int .i16 y] 0), (0, .cells cs sz)]⟩ <| mi R [.slice (some ⟨0, 0, none⟩) n c] ⟨2, [(1, .cells [.int .i16 x, .int .i16 y] 0), (0, .cells cs sz)]⟩ fun es => of R x y fun c1 c2 => forceN (floatOfInt .f64 r) fun rr =>
      bif decide ((n : Int) > 50) then K .ret [(6, .bool true)] [] else bif decide (r < 1) then K .ret [(6, .bool true)] [] else sm R x y fun t => bif t then
        g1 R [.agg ⟨[sl3 2 n]⟩, ciV c1 c2 rr] ⟨5, [(4, .cells [.complex .f64 c1 c2, .float .f64 rr] 0), (3, .cells [sl3 2 n] 0), (2, .cells es 4), (1, .cells [.int .i16 x, .int .i16 y] 0), (0, .cells cs sz)]⟩ <|
        g2 R [.agg ⟨[sl3 2 n]⟩, ciV c1 c2 rr] ⟨5, [(4, .cells [.complex .f64 c1 c2, .float .f64 rr] 0), (3, .cells [sl3 2 n] 0), (2, .cells es 4), (1, .cells [.int .i16 x, .int .i16 y] 0), (0, .cells cs sz)]⟩ <| K .ret [(6, .bool true)] []
      else K .ret [(6, .bool true)] []) := by kernel_rfl
end
end Go.Vm
namespace Go.Vm
open Go.Proofs
set_option linter.unusedVariables false
set_option linter.unusedSimpArgs false
set_option maxRecDepth 1000000

/-! ### RingApart: no elements -/
noncomputable def maN (fi : Fi) (gi gk : GI) (gc : GC) (st : St) (ap : Ap) (sm : KG2B) (of : KG2C) (len : KCF) (sc : KCFC) (ti : KCC) (ne : KCCFB) (ga g0 g1 g2 gx gy : HT) : Cx :=
  maC la0 fi gi gk gc st ap sm of len sc ti ne [(30, saysV (.bool true) ga), (36, saysV (roV 0 0 0) gx), (37, saysV (reV 0 0 0) gy)] [(31, saysM (ofV nilS true) g0), (34, saysM (thV_ nilS 0) g1), (35, saysM (thV_ nilS 0) g2)]
section
variable (fi : Fi) (R : Type) (gi gk : GI) (gc : GC) (st : St) (ap : Ap) (sm : KG2B) (of : KG2C) (len : KCF) (sc : KCFC) (ti : KCC) (ne : KCCFB) (ga g0 g1 g2 gx gy : HT) (cs es : List Value)
  (sz n c : Nat) (x y r : Int) (K : Ex → Env → Objs → Option R)
def maNH (cs : List Value) (sz : Nat) (x y : Int) (c1 c2 rr : Nat) : AH := ⟨4, [(3, .cells [.complex .f64 c1 c2, .float .f64 rr] 0), (2, .cells [nilS] 0), (1, .cells [.int .i16 x, .int .i16 y] 0), (0, .cells cs sz)]⟩
theorem ma_nil : evTop (maN fi gi gk gc st ap sm of len sc ti ne ga g0 g1 g2 gx gy) 60 (rollL (maN fi gi gk gc st ap sm of len sc ti ne ga g0 g1 g2 gx gy) 10) 1 232 (codeOf 6) (enumE 0 (maArgs 0 c x y r)) ⟨1, [(0, .cells cs sz)]⟩ (takeC [6] [] K) =
    (ga R [] ⟨2, [(1, .cells [.int .i16 x, .int .i16 y] 0), (0, .cells cs sz)]⟩ <| g0 R [.slice (some ⟨0, 0, none⟩) 0 c] ⟨2, [(1, .cells [.int .i16 x, .int .i16 y] 0), (0, .cells cs sz)]⟩ <| of R x y fun c1 c2 => forceN (floatOfInt .f64 r) fun rr =>
      bif decide (r < 1) then K .ret [(6, .bool true)] [] else sm R x y fun t => bif t then
        g1 R [.agg ⟨[nilS]⟩, ciV c1 c2 rr] (maNH cs sz x y c1 c2 rr) <|
        g2 R [.agg ⟨[nilS]⟩, ciV c1 c2 rr] (maNH cs sz x y c1 c2 rr) <|
        gx R [.agg ⟨[nilS]⟩, ciV c1 c2 rr] (maNH cs sz x y c1 c2 rr) <|
        gy R [.agg ⟨[nilS]⟩, ciV c1 c2 rr] (maNH cs sz x y c1 c2 rr) <|
        ti R 0 0 fun a b => sc R a b 4618760256179416344 fun a b => ne R 0 0 a b 0 fun t => bif t then K .ret [(6, .bool true)] [] else K .ret [(6, .bool false)] []
      else K .ret [(6, .bool true)] []) := by kernel_rfl
theorem nil_34 (wi : KCFB) (c1 c2 r : Nat) (k : Value → Option R) : evFn (cx Tryz.prog [(135, sCFB wi)]) 60 34 [.agg ⟨[nilS]⟩, ciV c1 c2 r] k =
    wi R c1 c2 4787326403894837248 fun t => forceB t fun t => bif t then (bif geF r 4427038433705197568 then (bif leF r 4787326403894837248 then bindF (fbF .mul r 4517110426252607488) fun t => k (thV_ nilS 0) else k (thV_ nilS 5)) else k (thV_ nilS 5)) else k (thV_ nilS 5) := by kernel_rfl
theorem nil_35 (wi : KCFB) (c1 c2 r : Nat) (k : Value → Option R) : evFn (cx Tryz.prog [(135, sCFB wi)]) 60 35 [.agg ⟨[nilS]⟩, ciV c1 c2 r] k =
    wi R c1 c2 4787326403894837248 fun t => forceB t fun t => bif t then (bif geF r 4427038433705197568 then (bif leF r 4787326403894837248 then bindF (fbF .mul r 4517110426252607488) fun t => k (thV_ nilS 0) else k (thV_ nilS 5)) else k (thV_ nilS 5)) else k (thV_ nilS 5) := by kernel_rfl
theorem nil_36 (wi : KCFB) (c1 c2 r : Nat) (k : Value → Option R) : evFn (cx Tryz.prog [(135, sCFB wi)]) 60 36 [.agg ⟨[nilS]⟩, ciV c1 c2 r] k =
    wi R c1 c2 4787326403894837248 fun t => forceB t fun t => bif t then (bif geF r 4427038433705197568 then (bif leF r 4787326403894837248 then bindF (fbF .mul r 4517110426252607488) fun t => k (roV 0 0 0) else k (roV 0 0 5)) else k (roV 0 0 5)) else k (roV 0 0 5) := by kernel_rfl
theorem nil_37 (wi : KCFB) (c1 c2 r : Nat) (k : Value → Option R) : evFn (cx Tryz.prog [(135, sCFB wi)]) 60 37 [.agg ⟨[nilS]⟩, ciV c1 c2 r] k =
    wi R c1 c2 4787326403894837248 fun t => forceB t fun t => bif t then (bif geF r 4427038433705197568 then (bif leF r 4787326403894837248 then bindF (fbF .mul r 4517110426252607488) fun t => k (reV 0 0 0) else k (reV 0 0 5)) else k (reV 0 0 5)) else k (reV 0 0 5) := by kernel_rfl
end
theorem nil_call {f : FuncId} {c1 c2 r t : Nat} {v v5 : Value} {H : AH} (hr : Fits c1 c2 r) (ht : fbF .mul r 4517110426252607488 = some t)
    (h : ∀ (R : Type) (wi : KCFB) (k : Value → Option R), evFn (cx Tryz.prog [(135, sCFB wi)]) 60 f [.agg ⟨[nilS]⟩, ciV c1 c2 r] k =
      wi R c1 c2 4787326403894837248 fun t => forceB t fun t => bif t then (bif geF r 4427038433705197568 then (bif leF r 4787326403894837248 then bindF (fbF .mul r 4517110426252607488) fun t => k v else k v5) else k v5) else k v5) :
    FlatCall Tryz.prog f [.agg ⟨[nilS]⟩, ciV c1 c2 r] H v := by
  have e : evFn (cx Tryz.prog [(135, sCFB WithinK)]) 60 f [.agg ⟨[nilS]⟩, ciV c1 c2 r] some = some v := by
    rw [h, hr.within, forceB_eq, cond_true, hr.lo, cond_true, hr.hi, cond_true, bindF_val ht]
  obtain ⟨u, h1, _, h2⟩ := evFn_sound (cx_ok (.cons k135 h135r .nil)) zm_ok e rfl
  cases h1
  intro ρ w args' hi ha
  rw [ha.flat_eq rfl]
  exact h2 w
end Go.Vm
namespace Go.Vm
open Go.Proofs
set_option linter.unusedVariables false
set_option linter.unusedSimpArgs false
set_option maxRecDepth 1000000

/-! ### RingApart's rounds, over real lists -/
theorem h28r : Has Tryz.prog 28 := ⟨Tryz.f28, _, Tryz.func28, by kernel_rfl, rfl⟩
theorem one3 : OneCell Tryz.prog 3 := fun R cs off k => by kernel_rfl
noncomputable def maR (lim : Nat → Bool) (gl : List (Nat × HSum)) (ml : List (Nat × MSum)) : Cx := maC lim fiReal (rI .i64) (rI .u8) rC rSt (rAp Tryz.prog) smB of2 lengthK sclK timesK nearK gl ml
theorem maR_ok (lim : Nat → Bool) {gl : List (Nat × HSum)} (hg : GsOk Tryz.prog gl) {ml : List (Nat × MSum)} (hm : MsOk Tryz.prog ml) : (maR lim gl ml).Ok :=
  cxM_ok no_meth (.cons k33 h33 (.cons k32 h32 (.cons k38 h38 (.cons k39 h39 (.cons k40 h40 (.cons k28 h28r .nil)))))) no_ext hg hm (mmOf_ok (.cons (ldI_ok one3) (.cons (ldI_ok one5) (.cons (ldC_ok one28) .nil))))
theorem maA_loops : loopsIn maA = [] := by kernel_rfl
theorem maB_loops : loopsIn maB = [] := by kernel_rfl
theorem ma_body : Tryz.f6.body = some (codeOf 6) := by kernel_rfl
theorem h30 : Has Tryz.prog 30 := ⟨Tryz.f30, _, Tryz.func30, by kernel_rfl, rfl⟩
theorem h31 : Has Tryz.prog 31 := ⟨Tryz.f31, _, Tryz.func31, by kernel_rfl, rfl⟩
theorem h34 : Has Tryz.prog 34 := ⟨Tryz.f34, _, Tryz.func34, by kernel_rfl, rfl⟩
theorem h35 : Has Tryz.prog 35 := ⟨Tryz.f35, _, Tryz.func35, by kernel_rfl, rfl⟩
theorem h36 : Has Tryz.prog 36 := ⟨Tryz.f36, _, Tryz.func36, by kernel_rfl, rfl⟩
theorem h37 : Has Tryz.prog 37 := ⟨Tryz.f37, _, Tryz.func37, by kernel_rfl, rfl⟩
section
variable {es : List Value} {c1 c2 r : Nat} {xs : List El} (S : Sight c1 c2 r)
theorem rI_ints {js : List Nat} {i v : Nat} (h : js[i]? = some v) (R : Type) (k : Int → Option R) : rI .i64 R (ints js) (0 + i * 1) k = k v := by
  unfold rI ints
  rw [Nat.zero_add, Nat.mul_one, List.getElem?_map, h]
  rfl
theorem sites_split (w : Int) {j : Nat} (hj : j ≤ xs.length) : sites S w xs xs.length = sites S w xs j ++ (List.range' j (xs.length - j)).filter (atSide S w xs) := by
  unfold sites
  rw [← List.filter_append]
  congr 1
  rw [List.range_eq_range', List.range_eq_range', show List.range' 0 xs.length = List.range' 0 (j + (xs.length - j)) by rw [show j + (xs.length - j) = xs.length by omega], ← List.range'_append_1, Nat.zero_add]
theorem sites_at {w : Int} {j : Nat} {x : El} (hk : xs[j]? = some x) :
    (sideOf S x == w) = true ∧ (sites S w xs j).length < (sites S w xs xs.length).length ∧ (sites S w xs xs.length)[(sites S w xs j).length]? = some j ∨
    (sideOf S x == w) = false ∧ ((sites S w xs j).length < (sites S w xs xs.length).length → ∃ v, (sites S w xs xs.length)[(sites S w xs j).length]? = some v ∧ v ≠ j) := by
  have hj := (List.getElem?_eq_some_iff.1 hk).1
  have hat : atSide S w xs j = (sideOf S x == w) := by unfold atSide; rw [hk]
  rw [sites_split S w (Nat.le_of_lt hj), show xs.length - j = (xs.length - (j + 1)) + 1 by omega, List.range'_succ]
  cases h : sideOf S x == w with
  | true =>
    left
    rw [List.filter_cons_of_pos (by rw [hat, h])]
    refine ⟨rfl, by simp, ?_⟩
    rw [List.getElem?_append_right (Nat.le_refl _), Nat.sub_self]
    rfl
  | false =>
    right
    rw [List.filter_cons_of_neg (by rw [hat, h]; simp)]
    refine ⟨rfl, fun hl => ?_⟩
    rw [List.length_append] at hl
    have hl' : 0 < ((List.range' (j + 1) (xs.length - (j + 1))).filter (atSide S w xs)).length := by omega
    refine ⟨((List.range' (j + 1) (xs.length - (j + 1))).filter (atSide S w xs))[0], ?_, fun e => ?_⟩
    · rw [List.getElem?_append_right (Nat.le_refl _), Nat.sub_self, List.getElem?_eq_getElem hl']
    · have hm := List.getElem_mem hl'
      rw [e] at hm
      have := (List.mem_filter.1 hm).1
      rw [List.mem_range'_1] at this
      omega
theorem rdS_site {w : Int} {j : Nat} {x : El} (hk : xs[j]? = some x) (R : Type) (K : Bool → Option R) :
    rdS (rI .i64) (ints (sites S w xs xs.length)) (sites S w xs xs.length).length (sites S w xs j).length j K = K (sideOf S x == w) := by
  unfold rdS
  rcases sites_at S (w := w) hk with ⟨h1, h2, h3⟩ | ⟨h1, h2⟩
  · rw [decide_eq_true (by exact_mod_cast h2), cond_true, idx_ok, cond_true, rI_ints h3, h1]
    simp
  · by_cases hl : (sites S w xs j).length < (sites S w xs xs.length).length
    · obtain ⟨v, h3, h4⟩ := h2 hl
      rw [decide_eq_true (by exact_mod_cast hl), cond_true, idx_ok, cond_true, rI_ints h3, h1, show ((v : Int) == (j : Int)) = false from by simp; omega]
      rfl
    · rw [decide_eq_false (by omega), h1]; rfl
theorem rdT_site {w : Int} {j : Nat} {x : El} (hk : xs[j]? = some x) (R : Type) (K : Bool → Option R) :
    rdT (rI .i64) (ints (sites S w xs xs.length)) (sites S w xs xs.length).length (sites S w xs j).length j K = K (sideOf S x == w) := by
  unfold rdT
  rcases sites_at S (w := w) hk with ⟨h1, h2, h3⟩ | ⟨h1, h2⟩
  · rw [decide_eq_true (by exact_mod_cast h2), cond_true, idx_ok, cond_true, rI_ints h3, h1]
    simp
  · by_cases hl : (sites S w xs j).length < (sites S w xs xs.length).length
    · obtain ⟨v, h3, h4⟩ := h2 hl
      rw [decide_eq_true (by exact_mod_cast hl), cond_true, idx_ok, cond_true, rI_ints h3, h1, show ((v : Int) == (j : Int)) = false from by simp; omega]
    · rw [decide_eq_false (by omega), h1]; rfl
theorem sites_nil {w : Int} (hn : sites S w xs xs.length = []) {j : Nat} {x : El} (hk : xs[j]? = some x) : sites S w xs j = [] ∧ (sideOf S x == w) = false := by
  have hj := (List.getElem?_eq_some_iff.1 hk).1
  rcases sites_at S (w := w) hk with ⟨h1, h2, h3⟩ | ⟨h1, h2⟩
  · rw [hn] at h3; simp at h3
  · refine ⟨?_, h1⟩
    have := sites_split S w (Nat.le_of_lt hj)
    rw [hn] at this
    exact (List.append_eq_nil_iff.1 this.symm).1
theorem rdN_site {w : Int} (hn : sites S w xs xs.length = []) {j : Nat} {x : El} (hk : xs[j]? = some x) (R : Type) (K : Bool → Option R) :
    rdN (sites S w xs j).length K = K (sideOf S x == w) := by
  obtain ⟨h1, h2⟩ := sites_nil S hn hk
  unfold rdN
  rw [h1, h2]
  rfl
theorem rI_kind (hx : ElsAt es 0 xs) {j : Nat} {x : El} (hk : xs[j]? = some x) (R : Type) (k : Int → Option R) : rI .u8 R es (0 + j * 4 + 0) k = k x.kind := by
  obtain ⟨rest, e⟩ := hx j x hk
  unfold rI
  rw [get_more e 0 (by show 0 < 4; omega)]
  rfl
theorem rC_strength (hx : ElsAt es 0 xs) {j : Nat} {x : El} (hk : xs[j]? = some x) (R : Type) (k : Nat → Nat → Option R) : rC R es (0 + j * 4 + 2) k = k x.s1 x.s2 := by
  obtain ⟨rest, e⟩ := hx j x hk
  unfold rC
  rw [get_more e 2 (by show 2 < 4; omega)]
  rfl
/-- how many lie there among the first ones -/
def cnt (w : Int) (xs : List El) (j : Nat) : Nat := (sites S w xs j).length
theorem cnt_step {w : Int} {j : Nat} {x : El} (hk : xs[j]? = some x) : cnt S w xs (j + 1) = cnt S w xs j + (if (sideOf S x == w) = true then 1 else 0) := by
  unfold cnt
  rw [sites_step S hk]
  cases sideOf S x == w with
  | true => simp
  | false => simp
theorem cnt_le {w : Int} (j : Nat) : cnt S w xs j ≤ j := sites_len S j
theorem maK_at (hx : ElsAt es 0 xs) (hn : xs.length < 900000) {j : Nat} {x : El} (hk : xs[j]? = some x) (R : Type) (bad : Option R) (go : Int → Int → Int → Int → Option R) :
    maK fiReal (rI .u8) es xs.length j (cnt S (-1) xs j) (cnt S 1 xs j) j (sideOf S x == -1) (sideOf S x == 1) bad go = go (j + 1 : Nat) (cnt S (-1) xs (j + 1)) (cnt S 1 xs (j + 1)) (j + 1 : Nat) := by
  have hj := (List.getElem?_eq_some_iff.1 hk).1
  have a1 := cnt_le (xs := xs) S (w := -1) j
  have a2 := cnt_le (xs := xs) S (w := 1) j
  have e1 := cnt_step S (w := -1) hk
  have e2 := cnt_step S (w := 1) hk
  unfold maK
  rw [decide_eq_true (show (j : Int) < xs.length by omega), idx_ok]
  unfold sideOf at e1 e2 ⊢
  cases h1 : x.kind == 1 with
  | true =>
    rw [h1] at e1 e2
    simp only [cond_true] at e1 e2 ⊢
    rw [if_neg (by decide)] at e1 e2
    rw [e1, e2]
    show rI .u8 R es (0 + j * 4 + 0) _ = _
    rw [rI_kind hx hk, h1, cond_true]
    simp only [fiReal_fair _ _ _]
    rw [wrap_up (k := j) (by omega)]
    rfl
  | false =>
    rw [h1] at e1 e2
    simp only [cond_false] at e1 e2 ⊢
    cases h2 : ltF (S.lw x) r with
    | true =>
      rw [h2] at e1 e2
      simp only [cond_true] at e1 e2 ⊢
      rw [if_pos (by decide)] at e1
      rw [if_neg (by decide)] at e2
      rw [e1, e2]
      show rI .u8 R es (0 + j * 4 + 0) _ = _
      rw [rI_kind hx hk, h1, cond_false]
      simp only [fiReal_fair _ _ _]
      rw [wrap_up (k := j) (by omega), wrap_up (k := cnt S (-1) xs j) (by omega)]
      rfl
    | false =>
      rw [h2] at e1 e2
      simp only [cond_false] at e1 e2 ⊢
      rw [if_neg (by decide)] at e1
      rw [if_pos (by decide)] at e2
      rw [e1, e2]
      show rI .u8 R es (0 + j * 4 + 0) _ = _
      rw [rI_kind hx hk, h1, cond_false]
      simp only [fiReal_fair _ _ _]
      rw [wrap_up (k := j) (by omega), wrap_up (k := cnt S 1 xs j) (by omega)]
      rfl
theorem cutB_at {n j : Nat} (hj : j < n) (hn : n < 900000) (R : Type) (k : Nat → Nat → Option R) : cutB n j ((j + 1 : Nat) : Int) k = k (j + 1) j := by
  unfold cutB boundE
  simp only
  rw [decide_eq_true (show (0 : Int) ≤ ((j + 1 : Nat) : Int) by omega), decide_eq_true (show ((j + 1 : Nat) : Int) ≤ (n : Int) by omega)]
  simp only [Bool.and_self, cond_true, Int.toNat_natCast, Option.bind_some]
  rw [decide_eq_true (show (0 : Int) ≤ (j : Int) by omega), decide_eq_true (show (j : Int) ≤ ((j + 1 : Nat) : Int) by omega)]
  simp only [Bool.and_self, cond_true, Option.bind_some, Int.toNat_natCast]
  rw [blt_true hj, ble_eq_of (show j ≤ n by omega)]
  rfl
end
/-- what the loop over single elements wants -/
structure Sums (es : List Value) (xs : List El) (c1 c2 rr : Nat) (y1 y2 lw T1 T2 M : Nat → Nat) : Prop where
  z1 : T1 0 = 0
  z2 : T2 0 = 0
  z3 : M 0 = 0
  a1 : ∀ j, j < xs.length → fbF .add (T1 j) (y1 j) = some (T1 (j + 1))
  a2 : ∀ j, j < xs.length → fbF .add (T2 j) (y2 j) = some (T2 (j + 1))
  a3 : ∀ j, j < xs.length → fbF .add (M j) (lw j) = some (M (j + 1))
  len : ∀ j x, xs[j]? = some x → ∀ (R : Type) (k : Nat → Option R), lengthK R x.s1 x.s2 k = k (lw j)
  call : ∀ j, j < xs.length → FlatCall Tryz.prog 36 [flowV (j * 4) 1 (xs.length - j), ciV c1 c2 rr] ⟨1, [(0, .cells es 4)]⟩ (roV (y1 j) (y2 j) 0)
end Go.Vm
namespace Go.Vm
open Ieee
set_option linter.unusedVariables false
set_option linter.unusedSimpArgs false

/-! ### Words of numbers that are not small are the only ones -/
theorem dv_sign {s : Bool} {m : Nat} {i : Int} (h : 0 < dv s m i) : s = false := by
  cases s with
  | false => rfl
  | true =>
    have h1 : dv true m i ≤ 0 := by
      unfold dv sg
      have := Rat.mul_nonneg (show (0 : Rat) ≤ (m : Rat) by exact_mod_cast Nat.zero_le m) (Rat.le_of_lt (p2_pos i))
      simp only [if_true]
      grind
    grind
theorem dv_sign' {s : Bool} {m : Nat} {i : Int} (h : dv s m i < 0) : s = true := by
  cases s with
  | true => rfl
  | false =>
    have h1 : 0 ≤ dv false m i := by
      unfold dv sg
      have := Rat.mul_nonneg (show (0 : Rat) ≤ (m : Rat) by exact_mod_cast Nat.zero_le m) (Rat.le_of_lt (p2_pos i))
      simp only [Bool.false_eq_true, if_false]
      grind
    grind

/-! ### Sums that come to nought -/
end Go.Vm
namespace Go.Vm
open Ieee
set_option linter.unusedVariables false
set_option linter.unusedSimpArgs false

/-! ### Floats that are whole numbers, as such -/
theorem toInt_is {w : Nat} {N : Int} (h : Is w N) (hN : N.natAbs < 2 ^ 53) : floatToIntVal .f64 w .i64 = some N := by
  obtain ⟨hw, s, m, i, h1, h2⟩ := h
  have hn : m <<< i.toNat = N.natAbs * 2 ^ (-i).toNat := by
    have e0 : ((m : Nat) : Rat) * (2 : Rat) ^ i = ((N.natAbs : Nat) : Rat) := by
      have := congrArg Rat.abs h2
      rw [dv_abs, int_abs] at this
      exact this
    have e1 : ((m <<< i.toNat : Nat) : Rat) = (m : Rat) * (2 : Rat) ^ i * (2 : Rat) ^ (((-i).toNat : Nat) : Int) := by
      rw [Nat.shiftLeft_eq, Rat.mul_assoc, ← p2_add]
      push_cast
      rw [show i + ((-i).toNat : Int) = ((i.toNat : Nat) : Int) by omega, p2_nat]
      push_cast
      rfl
    have e2 : ((m <<< i.toNat : Nat) : Rat) = ((N.natAbs * 2 ^ (-i).toNat : Nat) : Rat) := by
      rw [e1, e0, p2_nat]
      push_cast
      rfl
    exact_mod_cast e2
  have hcut : Toward.zero.cut s (m <<< i.toNat) (-i).toNat = N.natAbs := by
    unfold Toward.cut
    simp only [Bool.toNat_false, Nat.add_zero]
    by_cases h0 : N.natAbs = 0
    · rw [hn, h0]; simp
    · have hge : 2 ^ (-i).toNat ≤ m <<< i.toNat := by rw [hn]; exact Nat.le_mul_of_pos_left _ (by omega)
      have hlog : (-i).toNat ≤ (m <<< i.toNat).log2 := (Nat.le_log2 (by have := Nat.two_pow_pos (-i).toNat; omega)).2 hge
      rw [Nat.min_eq_left (by omega), hn, show 1 <<< (-i).toNat = 2 ^ (-i).toNat by rw [Nat.shiftLeft_eq, Nat.one_mul]]
      exact Nat.mul_div_cancel _ (Nat.two_pow_pos _)
  have hsg : signed s N.natAbs 0 = N := by
    unfold signed
    rw [Nat.shiftLeft_zero]
    by_cases h0 : N = 0
    · subst h0; cases s <;> rfl
    · cases s with
      | false =>
        have : 0 ≤ N := by
          refine Int.not_lt.1 fun hlt => ?_
          have : ((N : Int) : Rat) < 0 := by exact_mod_cast hlt
          have := dv_sign' (s := false) (m := m) (i := i) (by rw [h2]; exact this)
          cases this
        simp only [Bool.false_eq_true, if_false]
        omega
      | true =>
        have : N ≤ 0 := by
          refine Int.not_lt.1 fun hlt => ?_
          have : (0 : Rat) < ((N : Int) : Rat) := by exact_mod_cast hlt
          have := dv_sign (s := true) (m := m) (i := i) (by rw [h2]; exact this)
          cases this
        simp only [if_true]
        omega
  unfold floatToIntVal
  have hd : FloatKind.f64.decode w = .number s m i := h1
  rw [hd]
  simp only [Datum.toInt, Datum.integral, hcut, hsg]
  rw [if_pos]
  constructor
  · show (-9223372036854775808 : Int) ≤ N
    omega
  · show N ≤ 9223372036854775807
    omega
end Go.Vm
namespace Go.Vm
open Ieee
set_option linter.unusedVariables false
set_option linter.unusedSimpArgs false

/-! ### What is within a bound is a number -/
theorem read_not {w : Nat} (h : finW w = false) : double.read (absW w) = .infinity false ∨ ∃ t, double.read (absW w) = .nan false t := by
  have e1 : double.signWeight = 9223372036854775808 := by decide
  have e2 : double.binade = 4503599627370496 := by decide
  have e3 : double.infRung = 9218868437227405312 := by decide
  unfold finW at h
  rw [nl] at h
  have hE : ¬ expoW w < 2047 := by simpa using h
  have hEe : expoW w = w / 4503599627370496 % 2048 := rfl
  rw [absW_eq]
  have hm : w % 2 ^ 63 = w % 9223372036854775808 := rfl
  rw [hm]
  have hge : 9218868437227405312 ≤ w % 9223372036854775808 := by omega
  have h64 : w % 9223372036854775808 < 9223372036854775808 := Nat.mod_lt _ (by decide)
  generalize w % 9223372036854775808 = r at *
  unfold Format.read
  simp only [e1, e2, e3]
  have hr : r % 9223372036854775808 = r := Nat.mod_eq_of_lt h64
  have hs : (r / 9223372036854775808 % 2 == 1) = false := by rw [Nat.div_eq_of_lt h64]; rfl
  rw [hr, hs, if_neg (by omega), if_neg (by omega)]
  by_cases he : r = 9218868437227405312
  · rw [if_pos he]; exact .inl rfl
  · rw [if_neg he]; exact .inr ⟨_, rfl⟩

theorem within_is {p : Nat} (hp : p < 2 ^ 64) (h : leF (absW p) 4787326403894837248 = true) : ∃ P, Is p P ∧ P.abs ≤ ((2 ^ 40 : Int) : Rat) := by
  cases hf : finW p with
  | true =>
    have hi : Is p (dv (sgnW p) (mantW p) ((plcW p : Int) - 1074)) := ⟨hp, _, _, _, read_fast hf, rfl⟩
    refine ⟨_, hi, ?_⟩
    rw [leF_is (abs_is hi) is_p40] at h
    simpa using h
  | false =>
    exfalso
    unfold leF at h
    rw [ordW_eq] at h
    unfold Format.order at h
    rw [show double.read 4787326403894837248 = .number false 4503599627370496 (-12) by decide] at h
    rcases read_not hf with g | ⟨t, g⟩ <;> (rw [g] at h; cases h)
end Go.Vm
namespace Go.Vm
open Ieee
set_option linter.unusedVariables false
set_option linter.unusedSimpArgs false

/-! ### Whole -/
def wholeW (p : Nat) : Nat := double.write ((double.read p).integral .zero)
theorem wholeK_eq {p : Nat} {P : Rat} (h : Is p P) {R : Type} (k : Bool → Option R) : wholeK R p k = k (eqF (wholeW p) p) := by
  obtain ⟨hw, s, m, i, h1, rfl⟩ := h
  unfold wholeK wholeB roundK wholeW
  rw [h1]
  simp only
  rw [forceN_eq, forceB_eq]
/-! ### The words of 1 to 8 -/
end Go.Vm
namespace Go.Vm
open Ieee
set_option linter.unusedVariables false
set_option linter.unusedSimpArgs false

/-! ### The check, as a function of the kind, of whether the place is nought, and of the power -/
def checkV (kind : Int) (n : Bool) (p : Nat) : Int :=
  match decide (kind < 1) with
  | true => 150
  | false => match decide (kind > 4) with
    | true => 150
    | false => match leF (absW p) 4787326403894837248 with
      | false => 5
      | true => match kind == 1 with
        | true => (match n with | true => (match eqF p 0 with | true => 0 | false => 150) | false => 150)
        | false => match kind == 2 with
          | true => (match eqF p 0 with | true => 0 | false => 150)
          | false => match kind == 3 with
            | true => (match eqF (wholeW p) p with
              | true => (match geF p 4607182418800017408 with
                | true => (match leF p 4620693217682128896 with | true => 0 | false => 150)
                | false => 150)
              | false => 150)
            | false => (match geF p 4598175219545276416 with
                | true => (match leF p 4616189618054758400 with | true => 0 | false => 150)
                | false => 150)
theorem withinK_eq {p : Nat} {R : Type} (k : Bool → Option R) : withinK R p 4787326403894837248 k = k (leF (absW p) 4787326403894837248) := by
  unfold withinK withinB absK
  show forceB (leF (absW p) 4787326403894837248) (fun t => k t) = _
  rw [forceB_eq]
theorem check_eq {kind : Int} {a1 a2 s1 s2 p : Nat} {xa ya xs ys : Int} (ha : IsC a1 a2 xa ya) (hs : IsC s1 s2 xs ys) (h1 : xa.natAbs ≤ 2 ^ 40) (h2 : ya.natAbs ≤ 2 ^ 40) (h3 : xs.natAbs ≤ 2 ^ 40) (h4 : ys.natAbs ≤ 2 ^ 40)
    (hp : p < 2 ^ 64) {R : Type} (k : Int → Option R) : checkB placeK withinK noughtK wholeK R kind a1 a2 s1 s2 p k = k (checkV kind (decide (xa = 0 ∧ ya = 0)) p) := by
  unfold checkB checkV
  rw [forceB_eq]
  cases g0 : decide (kind < 1) with
  | true => rfl
  | false =>
    simp only
    rw [forceB_eq]
    cases g4 : decide (kind > 4) with
    | true => rfl
    | false =>
      simp only
      rw [placeK_int ha h1 h2, forceB_eq]
      simp only
      rw [placeK_int hs h3 h4, forceB_eq]
      simp only
      rw [withinK_eq, forceB_eq]
      cases hl : leF (absW p) 4787326403894837248 with
      | false => rfl
      | true =>
        obtain ⟨P, ip, bp⟩ := within_is hp hl
        simp only
        rw [forceB_eq]
        cases g1 : kind == 1 with
        | true =>
          simp only
          rw [noughtK_int ha, forceB_eq]
          cases decide (xa = 0 ∧ ya = 0) with
          | false => rfl
          | true =>
            simp only
            rw [forceB_eq]
            cases eqF p 0 <;> rfl
        | false =>
          simp only
          rw [forceB_eq]
          cases g2 : kind == 2 with
          | true =>
            simp only
            rw [forceB_eq]
            cases eqF p 0 <;> rfl
          | false =>
            simp only
            rw [forceB_eq]
            cases g3 : kind == 3 with
            | true =>
              simp only
              rw [wholeK_eq ip, forceB_eq]
              cases eqF (wholeW p) p with
              | false => rfl
              | true =>
                simp only
                rw [forceB_eq]
                cases geF p 4607182418800017408 with
                | false => rfl
                | true =>
                  simp only
                  rw [forceB_eq]
                  cases leF p 4620693217682128896 <;> rfl
            | false =>
              simp only
              rw [forceB_eq]
              cases g5 : kind == 4 with
              | true =>
                simp only
                rw [forceB_eq]
                cases geF p 4598175219545276416 with
                | false => rfl
                | true =>
                  simp only
                  rw [forceB_eq]
                  cases leF p 4616189618054758400 <;> rfl
              | false =>
                exfalso
                have c0 := of_decide_eq_false g0
                have c4 := of_decide_eq_false g4
                have c1 : ¬ kind = 1 := by simpa using g1
                have c2 : ¬ kind = 2 := by simpa using g2
                have c3 : ¬ kind = 3 := by simpa using g3
                have c5 : ¬ kind = 4 := by simpa using g5
                omega
end Go.Vm
namespace Go.Vm
open Ieee
set_option linter.unusedVariables false
set_option linter.unusedSimpArgs false

/-! ### Relative errors -/
/-! ### 1/(2 Pi) and Pi, as words -/
def cV : Rat := dv false 5734161139222659 (-55)
def piV : Rat := dv false 7074237752028440 (-51)
theorem is_c : Is 4594902181429758083 cV := ⟨by decide, false, _, _, by decide, rfl⟩
theorem p2_neg (n : Nat) : (2 : Rat) ^ (-(n : Int)) * ((2 ^ n : Nat) : Rat) = 1 := by
  rw [← p2_nat, ← p2_add, show -(n : Int) + n = 0 by omega, Rat.zpow_zero]
theorem cV_eq : cV = 5734161139222659 / 36028797018963968 := by
  have h := p2_neg 55
  have e : ((2 ^ 55 : Nat) : Rat) = 36028797018963968 := rfl
  rw [e] at h
  unfold cV dv sg
  rw [if_neg (by decide), Rat.one_mul, show ((5734161139222659 : Nat) : Rat) = 5734161139222659 by rfl, show (-55 : Int) = -((55 : Nat) : Int) by rfl]
  grind
theorem piV_eq : piV = 7074237752028440 / 2251799813685248 := by
  have h := p2_neg 51
  have e : ((2 ^ 51 : Nat) : Rat) = 2251799813685248 := rfl
  rw [e] at h
  unfold piV dv sg
  rw [if_neg (by decide), Rat.one_mul, show ((7074237752028440 : Nat) : Rat) = 7074237752028440 by rfl, show (-51 : Int) = -((51 : Nat) : Int) by rfl]
  grind
theorem cV_ge : 1 / 16 ≤ cV := by rw [cV_eq]; grind
theorem eps_eq : eps = 1 / 2251799813685248 := by
  have h := p2_neg 51
  have e : ((2 ^ 51 : Nat) : Rat) = 2251799813685248 := rfl
  rw [e] at h
  unfold eps
  rw [show (-51 : Int) = -((51 : Nat) : Int) by rfl]
  grind
theorem two_pi_c : (cV * 2 * piV - 1).abs ≤ eps := by
  rw [cV_eq, piV_eq, eps_eq]
  exact abs_le_iff.2 ⟨by grind, by grind⟩
theorem p40m : (2 : Rat) ^ (-40 : Int) = 1 / 1099511627776 := by
  have h := p2_neg 40
  have e : ((2 ^ 40 : Nat) : Rat) = 1099511627776 := rfl
  rw [e] at h
  rw [show (-40 : Int) = -((40 : Nat) : Int) by rfl]
  grind
theorem is_m40 : Is 4427038433705197568 ((2 : Rat) ^ (-40 : Int)) := by
  refine ⟨by decide, false, 4503599627370496, -92, by decide, ?_⟩
  unfold dv sg
  rw [if_neg (by decide), Rat.one_mul, show ((4503599627370496 : Nat) : Rat) = (2 : Rat) ^ ((52 : Nat) : Int) by rw [p2_nat], ← p2_add]
  rfl
theorem is_hair : Is 4517110426252607488 ((2 : Rat) ^ (-20 : Int)) := by
  refine ⟨by decide, false, 4503599627370496, -72, by decide, ?_⟩
  unfold dv sg
  rw [if_neg (by decide), Rat.one_mul, show ((4503599627370496 : Nat) : Rat) = (2 : Rat) ^ ((52 : Nat) : Int) by rw [p2_nat], ← p2_add]
  rfl
end Go.Vm
namespace Go.Vm
open Ieee
set_option linter.unusedVariables false
set_option linter.unusedSimpArgs false

/-! ### Whole numbers through ForceLift's functions -/
section
variable {a1 a2 s1 s2 : Nat} {x y u v : Int} {R : Type}
theorem WithinK_int (ha : IsC a1 a2 x y) (h1 : x.natAbs ≤ 2 ^ 40) (h2 : y.natAbs ≤ 2 ^ 40) (k : Bool → Option R) : WithinK R a1 a2 4787326403894837248 k = k true := by
  unfold WithinK WithinB
  rw [withinK_int ha.1 h1, forceB_eq]
  simp only
  rw [withinK_int ha.2 h2, forceB_eq]
theorem ge_least {r : Nat} {V : Int} (hr : Is r V) (h1 : 1 ≤ V) : geF r 4427038433705197568 = true := by
  rw [geF_is hr is_m40, p40m]
  have : ((1 : Int) : Rat) ≤ (V : Rat) := by exact_mod_cast h1
  have e : ((1 : Int) : Rat) = 1 := rfl
  exact decide_eq_true (by grind)
theorem le_most {r : Nat} {V : Int} (hr : Is r V) (h1 : V ≤ 2 ^ 40) : leF r 4787326403894837248 = true := by
  rw [leF_is hr is_p40]
  exact decide_eq_true (by exact_mod_cast h1)
/-! ### Lengths -/
end
end Go.Vm
namespace Go.Vm
open Ieee
set_option linter.unusedVariables false
set_option linter.unusedSimpArgs false

section
variable {R : Type}
/-! ### Near -/
/-! ### Clean -/
theorem p20m : (2 : Rat) ^ (-20 : Int) = 1 / 1048576 := by
  have h := p2_neg 20
  have e : ((2 ^ 20 : Nat) : Rat) = 1048576 := rfl
  rw [e] at h
  rw [show (-20 : Int) = -((20 : Nat) : Int) by rfl]
  grind
theorem lt_big {x : Rat} (h : x.abs ≤ 1000000000000000) : x.abs < (2 : Rat) ^ (1023 : Int) := by
  have h6 := p2_le (show (50 : Int) ≤ 1023 by decide)
  have h8 : (2 : Rat) ^ (50 : Int) = 1125899906842624 := by rw [show (50 : Int) = ((50 : Nat) : Int) by rfl, p2_nat]; rfl
  grind
end
end Go.Vm
