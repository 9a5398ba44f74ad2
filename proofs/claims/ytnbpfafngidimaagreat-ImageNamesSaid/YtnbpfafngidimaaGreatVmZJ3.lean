/- A part of the evaluator and of what is told of floats; no conditions. -/
import Derived.Test.YtnbpfafngidimaaGreatVmZF1
namespace Go.Vm
open Go.Proofs
set_option linter.unusedVariables false
set_option linter.unusedSimpArgs false
set_option maxRecDepth 1000000

/-! ### ImageNames -/
def sayW (gf : MT) (gm gw : HT) : MSum := fun R args H k => match args with
  | [.agg ⟨[.slice (some _) n _]⟩, _, _] => bif Nat.beq n 128 then gf R args H fun cs => k (fineV 256 H.next) (H.push (.cells cs 4)) else bif Nat.beq n 129 then gm R args H (k manyV H) else gw R args H (k (wrongV 170) H)
  | _ => none
def sayC (gm gw gr : HT) : MSum := fun R args H k => match args with
  | [.agg ⟨[.slice (some _) n _]⟩, _] => bif Nat.beq n 129 then gm R args H (k manyV H) else gw R args H (k (wrongV 170) H)
  | [.agg ⟨[.slice none _ _]⟩, _] => gr R args H (k (wrongV 5) H)
  | _ => none
def thV (e : Int) : Value := .tuple ⟨[.float .f64 0, .int .i64 e]⟩
def sayT (g4 g0 gs : HT) : MSum := fun R args H k => match args with
  | [_, .slice (some _) n _, _] => bif Nat.beq n 4097 then g4 R args H (k (thV 4) H) else bif Nat.beq n 4096 then g0 R args H (k (thV 0) H) else gs R args H (k (thV 140) H)
  | _ => none
theorem says_mem {P : Program} {f : FuncId} {v : Value} {R : Type} {args : List Value} {H : AH} {k : Value → AH → Option R} {r : R} (hv : flat v = true) (h : saysR P f v R args H (k v H) = some r) :
    ∃ v H', k v H' = some r ∧ ∀ (lo : Nat) (ρ : Map) (w : World) (args' : List Value), Inv ρ H w → lo ≤ H.next → VRels ρ args args' → Calls P f ⟨args'⟩ w fun e w' => ∃ ρ' v', e = .returned v' ∧ VRel ρ' v v' ∧ Next lo ρ H w ρ' H' w' :=
  saysM_ok (v := v) hv R args H k r h
theorem sayW_ok {os : List Value} : MSumOk Tryz.prog 43 (sayW (leavesR Tryz.prog 43 4 (fineV 256) os) (saysR Tryz.prog 43 manyV) (saysR Tryz.prog 43 (wrongV 170))) := fun R args H k r h => by
  unfold sayW at h
  split at h
  · rename_i a n c x y
    cases h1 : Nat.beq n 128 with
    | true => rw [h1] at h; exact leaves_ok R _ H k r h
    | false =>
      rw [h1] at h
      cases h2 : Nat.beq n 129 with
      | true => rw [h2] at h; exact says_mem rfl h
      | false => rw [h2] at h; exact says_mem rfl h
  · cases h
theorem sayC_ok : MSumOk Tryz.prog 44 (sayC (saysR Tryz.prog 44 manyV) (saysR Tryz.prog 44 (wrongV 170)) (saysR Tryz.prog 44 (wrongV 5))) := fun R args H k r h => by
  unfold sayC at h
  split at h
  · rename_i a n c x
    cases h2 : Nat.beq n 129 with
    | true => rw [h2] at h; exact says_mem rfl h
    | false => rw [h2] at h; exact says_mem rfl h
  · exact says_mem rfl h
  · cases h
theorem sayT_ok : MSumOk Tryz.prog 45 (sayT (saysR Tryz.prog 45 (thV 4)) (saysR Tryz.prog 45 (thV 0)) (saysR Tryz.prog 45 (thV 140))) := fun R args H k r h => by
  unfold sayT at h
  split at h
  · rename_i x a n c y
    cases h1 : Nat.beq n 4097 with
    | true => rw [h1] at h; exact says_mem rfl h
    | false =>
      rw [h1] at h
      cases h2 : Nat.beq n 4096 with
      | true => rw [h2] at h; exact says_mem rfl h
      | false => rw [h2] at h; exact says_mem rfl h
  · cases h
noncomputable def imA : Code := loopNo (codeOf 7) 0
noncomputable def imB : Code := loopNo (codeOf 7) 1
noncomputable def imC (fi : Fi) (st : St) (ap : Ap) (gf : MT) (gm gw hm hw hr t4 t0 ts : HT) (lim : Nat → Bool) : Cx :=
  cxM fi Tryz.prog (fun _ _ => none) [(41, sTrue)] [] [] [(43, sayW gf gm gw), (44, sayC hm hw hr), (45, sayT t4 t0 ts)] (mmOf lim [] st ap)
def la9 (b : Nat) : Bool := Nat.beq b 9
def imE (k : Int) : Env := [(3, .int .i64 k), (2, .slice (some ⟨0, 0, none⟩) 128 128)]
def noEl : El := ⟨0, 0, 0, 0, 0, 0⟩
def imF (k : Int) : Env := [(14, .int .i64 k), (13, .slice (some ⟨9, 0, none⟩) 4097 4097), (12, .slice (some ⟨8, 0, none⟩) 4097 4097), (4, .pointer (some ⟨2, 0, none⟩)), (5, .int .i64 0), (7, .int .i64 4), (8, .pointer (some ⟨6, 0, none⟩)), (9, .int .i64 4), (11, .int .i64 4)]
def imO (ps ws : List Value) : Objs := [(9, .cells ws 0), (8, .cells ps 0), (2, .cells [.slice (some ⟨1, 0, none⟩) 256 256] 0), (6, .cells [.slice none 0 0] 0)]
abbrev imL (L1 L2 : Hand) : Hand := orL 14 (slimL [14, 13, 12, 4, 5, 7, 8, 9, 11] [9, 8, 2, 6] L2) (slimL [3, 2] [0] L1)
section
variable (fi : Fi) (st : St) (ap : Ap) (gf : MT) (gm gw hm hw hr t4 t0 ts : HT) (L1 L2 : Hand) (R : Type) (cs : List Value) (k : Nat) (K : Ex → Env → Objs → Option R)
theorem im_A : evTop (imC fi st ap gf gm gw hm hw hr t4 t0 ts la0) 60 noL 0 187 imA (imE k) ⟨1, [(0, .cells cs 0)]⟩ (takeC [3, 2] [0] K) =
    bif decide ((k : Int) < 128) then forceN (floatOfInt .f64 (k : Int)) fun x =>
      bif decide (0 ≤ (k : Int)) && decide ((k : Int) < 128) && true then
        st R cs (0 + k * 4) [.int .u8 2, .complex .f64 x 4613937818241073152, .complex .f64 4607182418800017408 0, .float .f64 0] fun cs => fi R (IntKind.i64.wrap (k + 1)) fun i => K .normal (imE i) [(0, .cells cs 0)]
      else none
    else K (.exit 0) (imE k) [(0, .cells cs 0)] := by kernel_rfl
theorem im_top : evTop (imC fiReal st ap gf gm gw hm hw hr t4 t0 ts la4) 60 (imL L1 L2) 0 187 (codeOf 7) [] ⟨0, []⟩ (takeC [0] [] K) =
    L1 R 0 187 imA (imE 0) ⟨1, [(0, .cells (cellsOf (List.replicate 128 noEl)) 0)]⟩
      (leaveE 0 (thenE (fun e H => evTop (imC fiReal st ap gf gm gw hm hw hr t4 t0 ts la4) 60 (imL L1 L2) 0 187 (seqN 5 (codeOf 7)) e H (takeC [0] [] K)) (takeC [0] [] K))) := by kernel_rfl
def imW1 : List Value := wlArgs 128 128
def imN : Objs := [(3, .cells [.int .u8 2, .complex .f64 0 4617315517961601024, .complex .f64 0 0, .float .f64 0] 0)]
def imF2 (os : List Value) : Objs := [(2, .cells [.slice (some ⟨1, 0, none⟩) 256 256] 0), (1, .cells os 4)]
def wl4 : List Value := [.agg ⟨[.slice (some ⟨4, 0, none⟩) 129 129]⟩, .complex .f64 0 0, .complex .f64 4607182418800017408 0]
def ci44 : List Value := [.agg ⟨[.slice (some ⟨4, 0, none⟩) 129 129]⟩, .agg ⟨[.complex .f64 0 0, .float .f64 4607182418800017408]⟩]
theorem im_mid : evTop (imC fiReal st ap gf gm gw hm hw hr t4 t0 ts la4) 60 (imL L1 L2) 0 187 (seqN 5 (codeOf 7)) (imE k) ⟨1, [(0, .cells cs 0)]⟩ (takeC [0] [] K) =
    gf R imW1 ⟨1, [(0, .cells cs 0)]⟩ fun os => ap R 55 cs 128 128 [.int .u8 2, .complex .f64 0 4617315517961601024, .complex .f64 0 0, .float .f64 0] 0 1 fun c1 =>
      gm R wl4 ⟨5, (4, .cells c1 4) :: (imN ++ imF2 os ++ [(0, .cells cs 0)])⟩ <|
      st R c1 512 [.int .u8 1] fun c2 => st R c2 513 [.complex .f64 0 0] fun c3 =>
      gm R wl4 ⟨6, (4, .cells c3 4) :: (5, .cells [.slice none 0 0] 0) :: (imN ++ imF2 os ++ [(0, .cells cs 0)])⟩ <|
      hm R ci44 ⟨7, (6, .cells [.slice none 0 0] 0) :: (4, .cells c3 4) :: (5, .cells [.slice none 0 0] 0) :: (imN ++ imF2 os ++ [(0, .cells cs 0)])⟩ <|
      L2 R 0 187 imB (imF 0) ⟨10, imO (List.replicate 4097 z0V) (List.replicate 4097 z0V)⟩
      (leaveE 2 (thenE (fun e H => evTop (imC fiReal st ap gf gm gw hm hw hr t4 t0 ts la4) 60 (imL L1 L2) 0 187 (seqN 15 (codeOf 7)) e H (takeC [0] [] K)) (takeC [0] [] K))) := by kernel_rfl
end
end Go.Vm
namespace Go.Vm
open Go.Proofs
set_option linter.unusedVariables false
set_option linter.unusedSimpArgs false
set_option maxRecDepth 1000000

/-! ### ImageNames, all of it -/
def onO : Objs := [(10, .cells [.slice (some ⟨11, 0, none⟩) 1 1] 0), (11, .cells onC 0)]
def th9 (n m : Nat) : List Value := [.agg ⟨[.slice none 0 0]⟩, .slice (some ⟨8, 0, none⟩) n 4097, .slice (some ⟨9, 0, none⟩) m 4097]
def on11 : Value := .agg ⟨[.slice (some ⟨11, 0, none⟩) 1 1]⟩
section
variable (fi : Fi) (st : St) (ap : Ap) (gf : MT) (gm gw hm hw hr t4 t0 ts : HT) (L : Hand) (R : Type) (ps ws : List Value) (k : Nat) (K : Ex → Env → Objs → Option R)
theorem im_B : evTop (imC fi st ap gf gm gw hm hw hr t4 t0 ts la9) 60 noL 0 187 imB (imF k) ⟨10, imO ps ws⟩ (takeC [14, 13, 12, 4, 5, 7, 8, 9, 11] [9, 8, 2, 6] K) =
    bif decide ((k : Int) < 4097) then
      bif decide (0 ≤ (k : Int)) && decide ((k : Int) < 4097) && true then
        st R ws (0 + k * 1) [.complex .f64 4607182418800017408 0] fun ws => fi R (IntKind.i64.wrap (k + 1)) fun i => K .normal (imF i) (imO ps ws)
      else none
    else K (.exit 2) (imF k) (imO ps ws) := by kernel_rfl
theorem im_end : evTop (imC fiReal st ap gf gm gw hm hw hr t4 t0 ts la4) 60 L 0 187 (seqN 15 (codeOf 7)) (imF k) ⟨10, imO ps ws⟩ (takeC [0] [] K) =
    (t4 R (th9 4097 4097) ⟨10, imO ps ws⟩ <| t0 R (th9 4096 4096) ⟨10, imO ps ws⟩ <| ts R (th9 2 1) ⟨10, imO ps ws⟩ <|
    gw R [on11, .complex .f64 0 0, .complex .f64 4607182418800017408 0] ⟨13, (12, .cells [.slice (some ⟨11, 0, none⟩) 1 1] 0) :: (onO ++ imO ps ws)⟩ <|
    hw R [on11, .agg ⟨[.complex .f64 0 0, .float .f64 4613937818241073152]⟩] ⟨14, (13, .cells [.slice none 0 0] 0) :: (12, .cells [.slice (some ⟨11, 0, none⟩) 1 1] 0) :: (onO ++ imO ps ws)⟩ <|
    hr R [.agg ⟨[.slice none 0 0]⟩, .agg ⟨[.complex .f64 0 0, .float .f64 4422534834077827072]⟩] ⟨15, (14, .cells [.slice none 0 0] 0) :: (13, .cells [.slice none 0 0] 0) :: (12, .cells [.slice (some ⟨11, 0, none⟩) 1 1] 0) :: (onO ++ imO ps ws)⟩ <|
    K .ret [(0, .bool true)] []) := by kernel_rfl
end

/-! lists that are written -/
theorem cells_take : ∀ (ys : List El) (k : Nat), (cellsOf ys).take (k * 4) = cellsOf (ys.take k)
  | [], k => by simp [cellsOf]
  | y :: r, 0 => by simp [cellsOf]
  | y :: r, k + 1 => by
    show (y.cs ++ cellsOf r).take ((k + 1) * 4) = y.cs ++ cellsOf (r.take k)
    rw [show (k + 1) * 4 = y.cs.length + k * 4 by show _ = 4 + k * 4; omega, List.take_append, List.take_of_length_le (by omega), Nat.add_sub_cancel_left, cells_take r k]
theorem cells_drop : ∀ (ys : List El) (k : Nat), (cellsOf ys).drop (k * 4) = cellsOf (ys.drop k)
  | [], k => by simp [cellsOf]
  | y :: r, 0 => by simp
  | y :: r, k + 1 => by
    show (y.cs ++ cellsOf r).drop ((k + 1) * 4) = cellsOf (r.drop k)
    rw [show (k + 1) * 4 = y.cs.length + k * 4 by show _ = 4 + k * 4; omega, List.drop_append, List.drop_eq_nil_of_le (by omega), List.nil_append, Nat.add_sub_cancel_left, cells_drop r k]
theorem splice_cells (ys : List El) (k : Nat) (x : El) : splice (cellsOf ys) (k * 4) x.cs = cellsOf (ys.take k ++ x :: ys.drop (k + 1)) := by
  unfold splice
  rw [show k * 4 + x.cs.length = (k + 1) * 4 by show _ + 4 = _; omega, cells_take, cells_drop, cells_app]
  rfl
theorem rSt_eq {R : Type} {cs vs : List Value} {off : Nat} {k : List Value → Option R} (h : off + vs.length ≤ cs.length) : rSt R cs off vs k = k (splice cs off vs) := by
  unfold rSt; rw [ble_eq_of h]; rfl
def l1k (k : Nat) : List El := l1.take k ++ List.replicate (128 - k) noEl
theorem l1k_len {k : Nat} (h : k ≤ 128) : (l1k k).length = 128 := by
  unfold l1k
  rw [List.length_append, List.length_take, l1_len, List.length_replicate]; omega
theorem l1_map : l1 = (List.range 128).map fun k => ⟨2, floatOfInt .f64 (k : Int), 4613937818241073152, 4607182418800017408, 0, 0⟩ := by kernel_rfl
theorem l1_at {k : Nat} (h : k < 128) : l1[k]? = some ⟨2, floatOfInt .f64 (k : Int), 4613937818241073152, 4607182418800017408, 0, 0⟩ := by
  rw [l1_map]; simp [h]
theorem l1k_step {k : Nat} (h : k < 128) : splice (cellsOf (l1k k)) (0 + k * 4) [.int .u8 2, .complex .f64 (floatOfInt .f64 (k : Int)) 4613937818241073152, .complex .f64 4607182418800017408 0, .float .f64 0] = cellsOf (l1k (k + 1)) := by
  rw [Nat.zero_add]
  refine (splice_cells (l1k k) k ⟨2, floatOfInt .f64 (k : Int), 4613937818241073152, 4607182418800017408, 0, 0⟩).trans ?_
  have hl : (l1.take k).length = k := by rw [List.length_take, l1_len]; omega
  congr 1
  unfold l1k
  rw [List.take_append, List.take_of_length_le (by omega), hl, Nat.sub_self, List.take_zero, List.append_nil, List.drop_append, List.drop_eq_nil_of_le (by omega), List.nil_append, hl, List.drop_replicate]
  rw [List.take_add_one, l1_at h]
  simp only [Option.toList_some, List.append_assoc, List.cons_append, List.nil_append]
  rw [show 128 - k - (k + 1 - k) = 128 - (k + 1) by omega]
def wys (k : Nat) : List Value := List.replicate k oneV ++ List.replicate (4097 - k) z0V
theorem wys_len {k : Nat} (h : k ≤ 4097) : (wys k).length = 4097 := by
  unfold wys
  rw [List.length_append, List.length_replicate, List.length_replicate]; omega
theorem wys_step {k : Nat} (h : k < 4097) : splice (wys k) (0 + k * 1) [.complex .f64 4607182418800017408 0] = wys (k + 1) := by
  have e : 0 + k * 1 = k := by omega
  rw [e]
  have hl : (List.replicate k oneV).length = k := by simp
  unfold splice wys
  simp only [List.length_cons, List.length_nil, Nat.zero_add]
  rw [List.take_append, List.take_of_length_le (by omega), hl, Nat.sub_self, List.take_zero, List.append_nil, List.drop_append, List.drop_eq_nil_of_le (by omega), List.nil_append, hl, List.drop_replicate]
  rw [List.replicate_succ', List.append_assoc, show 4097 - k - (k + 1 - k) = 4097 - (k + 1) by omega]
  rfl
theorem wys_flat {k : Nat} : inns 0 (wys k) = true := inns_app rep_inns rep_inns
/-! the contracts -/
noncomputable def imR (os : List Value) (lim : Nat → Bool) : Cx := imC fiReal rSt (rAp Tryz.prog) (leavesR Tryz.prog 43 4 (fineV 256) os) (saysR Tryz.prog 43 manyV) (saysR Tryz.prog 43 (wrongV 170)) (saysR Tryz.prog 44 manyV) (saysR Tryz.prog 44 (wrongV 170)) (saysR Tryz.prog 44 (wrongV 5)) (saysR Tryz.prog 45 (thV 4)) (saysR Tryz.prog 45 (thV 0)) (saysR Tryz.prog 45 (thV 140)) lim
theorem h43 : Has Tryz.prog 43 := ⟨Tryz.f43, _, Tryz.func43, by kernel_rfl, rfl⟩
theorem h44 : Has Tryz.prog 44 := ⟨Tryz.f44, _, Tryz.func44, by kernel_rfl, rfl⟩
theorem h45 : Has Tryz.prog 45 := ⟨Tryz.f45, _, Tryz.func45, by kernel_rfl, rfl⟩
theorem imR_ok (os : List Value) (lim : Nat → Bool) : (imR os lim).Ok := cxM_ok no_meth (.cons k41 h41 .nil) no_ext .nil (.cons sayW_ok h43 (.cons sayC_ok h44 (.cons sayT_ok h45 .nil))) (mmOf_ok .nil)
theorem imA_loops : loopsIn imA = [] := by kernel_rfl
theorem imB_loops : loopsIn imB = [] := by kernel_rfl
theorem im_body : Tryz.f7.body = some (codeOf 7) := by kernel_rfl
theorem imA_rounds : BaseRounds Tryz.prog 0 187 ⟨1, [(0, .cells (cellsOf (List.replicate 128 noEl)) 0)]⟩ imA (imE 0) ⟨1, [(0, .cells (cellsOf (l1k 0)) 0)]⟩ (.exit 0) (imE 128) ⟨1, [(0, .cells (cellsOf (l1k 128)) 0)]⟩ :=
  base_count (E := fun k : Nat => imE k) (H := fun k => ⟨1, [(0, .cells (cellsOf (l1k k)) 0)]⟩) 128 0
    (fun k _ hk => by
      have hk' : k < 128 := by omega
      exact round_told (C := imR [] la0) (H0 := ⟨1, [(0, .cells (cellsOf (List.replicate 128 noEl)) 0)]⟩) (e := imE k) (H := ⟨1, [(0, .cells (cellsOf (l1k k)) 0)]⟩) (n := 60) (ts := [3, 2]) (bo := [0]) (bs := []) (A := [(0, .cells (cellsOf (l1k (k + 1))) 0)]) (B := []) (D := [(0, .cells (cellsOf (List.replicate 128 noEl)) 0)]) (imR_ok _ _) zm_ok imA_loops
        (by unfold imR
            refine (im_A fiReal _ _ _ _ _ _ _ _ _ _ _ _ _ k _).trans ?_
            rw [decide_eq_true (show (k : Int) < 128 by omega), cond_true, idx_ok, forceN_eq, cond_true, rSt_eq (by rw [(row_cells _).1, l1k_len (by omega)]; show 0 + k * 4 + 4 ≤ _; omega), l1k_step hk', fiReal_fair, wrap_up (by omega)]) rfl
        (renOs_row rfl (row_cells _).2.1 rfl) rfl rfl rfl rfl rfl)
    (base_end (by intro h; cases h)
      (round_told (C := imR [] la0) (H0 := ⟨1, [(0, .cells (cellsOf (List.replicate 128 noEl)) 0)]⟩) (e := imE 128) (H := ⟨1, [(0, .cells (cellsOf (l1k 128)) 0)]⟩) (n := 60) (ts := [3, 2]) (bo := [0]) (bs := []) (A := [(0, .cells (cellsOf (l1k 128)) 0)]) (B := []) (D := [(0, .cells (cellsOf (List.replicate 128 noEl)) 0)]) (imR_ok _ _) zm_ok imA_loops
        (by unfold imR
            refine (im_A fiReal _ _ _ _ _ _ _ _ _ _ _ _ _ 128 _).trans ?_
            rw [decide_eq_false (by omega)]; rfl) rfl
        (renOs_row rfl (row_cells _).2.1 rfl) rfl rfl rfl rfl rfl))
def imD (ps ws : List Value) : Objs := imO ps ws
theorem imO_ren {p : Nat → Option Nat} {ps ws : List Value} (h9 : p 9 = some 9) (h8 : p 8 = some 8) (h2 : p 2 = some 2) (h6 : p 6 = some 6) (h1 : p 1 = some 1) (hp : inns 0 ps = true) (hw : inns 0 ws = true) : renOs p (imO ps ws) = some (imO ps ws) := by
  unfold imO
  refine renOs_row h9 hw (renOs_row h8 hp ?_)
  simp [renOs, renO, renL, renV, h2, h6, h1]
theorem imB_rounds {ps : List Value} (hp : inns 0 ps = true) : BaseRounds Tryz.prog 0 187 ⟨10, imO ps (wys 0)⟩ imB (imF 0) ⟨10, imO ps (wys 0)⟩ (.exit 2) (imF 4097) ⟨10, imO ps (wys 4097)⟩ :=
  base_count (E := fun k : Nat => imF k) (H := fun k => ⟨10, imO ps (wys k)⟩) 4097 0
    (fun k _ hk => by
      have hk' : k < 4097 := by omega
      exact round_told (C := imR [] la9) (H0 := ⟨10, imO ps (wys 0)⟩) (e := imF k) (H := ⟨10, imO ps (wys k)⟩) (n := 60) (ts := [14, 13, 12, 4, 5, 7, 8, 9, 11]) (bo := [9, 8, 2, 6]) (bs := []) (A := imO ps (wys (k + 1))) (B := []) (D := imO ps (wys 0)) (imR_ok _ _) zm_ok imB_loops
        (by unfold imR
            refine (im_B fiReal _ _ _ _ _ _ _ _ _ _ _ _ ps _ k _).trans ?_
            rw [decide_eq_true (show (k : Int) < 4097 by omega), cond_true, idx_ok, cond_true, rSt_eq (by rw [wys_len (by omega)]; show 0 + k * 1 + 1 ≤ _; omega), wys_step hk', fiReal_fair, wrap_up (by omega)]) rfl
        (imO_ren rfl rfl rfl rfl rfl hp wys_flat) rfl (by rw [List.append_nil]) rfl rfl rfl)
    (base_end (by intro h; cases h)
      (round_told (C := imR [] la9) (H0 := ⟨10, imO ps (wys 0)⟩) (e := imF 4097) (H := ⟨10, imO ps (wys 4097)⟩) (n := 60) (ts := [14, 13, 12, 4, 5, 7, 8, 9, 11]) (bo := [9, 8, 2, 6]) (bs := []) (A := imO ps (wys 4097)) (B := []) (D := imO ps (wys 0)) (imR_ok _ _) zm_ok imB_loops
        (by unfold imR
            refine (im_B fiReal _ _ _ _ _ _ _ _ _ _ _ _ ps _ 4097 _).trans ?_
            rw [decide_eq_false (by omega)]; rfl) rfl
        (imO_ren rfl rfl rfl rfl rfl hp wys_flat) rfl (by rw [List.append_nil]) rfl rfl rfl))
end Go.Vm
namespace Go.Vm
open Go.Proofs
set_option linter.unusedVariables false
set_option linter.unusedSimpArgs false
set_option maxRecDepth 1000000

/-! ### ImageNames' call -/
def pair (b d k : Nat) : Option Nat := bif Nat.beq k 0 then some b else bif Nat.beq k 1 then some d else none
theorem pair_some {b d j k : Nat} (h : pair b d j = some k) : (j = 0 ∧ k = b) ∨ (j = 1 ∧ k = d) := by
  unfold pair at h
  cases hb : Nat.beq j 0 with
  | true => rw [hb] at h; cases h; exact .inl ⟨Nat.eq_of_beq_eq_true hb, rfl⟩
  | false =>
    rw [hb] at h
    cases hc : Nat.beq j 1 with
    | true => rw [hc] at h; cases h; exact .inr ⟨Nat.eq_of_beq_eq_true hc, rfl⟩
    | false => rw [hc] at h; cases h
theorem within_pair {b d : Nat} {cs ds : List Value} {sz tz : Nat} {H : AH} (hf : inns 0 cs = true) (hg : inns 0 ds = true) (hne : b ≠ d) (hm : (b, .cells cs sz) ∈ H.objs) (hk : (d, .cells ds tz) ∈ H.objs) : Within (pair b d) ⟨2, [(1, .cells ds tz), (0, .cells cs sz)]⟩ H where
  obj := fun j o h => by
    simp only [List.mem_cons, List.mem_nil_iff, or_false, Prod.mk.injEq] at h
    rcases h with ⟨rfl, rfl⟩ | ⟨rfl, rfl⟩
    · exact ⟨d, .cells ds tz, rfl, by simp [renO, rens_flat hg], hk⟩
    · exact ⟨b, .cells cs sz, rfl, by simp [renO, rens_flat hf], hm⟩
  lt := fun j o h => by
    simp only [List.mem_cons, List.mem_nil_iff, or_false, Prod.mk.injEq] at h
    show j < 2
    omega
  one := fun j o o' h1 h2 => by
    simp only [List.mem_cons, List.mem_nil_iff, or_false, Prod.mk.injEq] at h1 h2
    rcases h1 with ⟨rfl, rfl⟩ | ⟨rfl, rfl⟩ <;> rcases h2 with ⟨h2, rfl⟩ | ⟨h2, rfl⟩
    · rfl
    · cases h2
    · cases h2
    · rfl
  inj := fun j j' k h1 h2 => by
    rcases pair_some h1 with ⟨rfl, rfl⟩ | ⟨rfl, rfl⟩ <;> rcases pair_some h2 with ⟨rfl, e⟩ | ⟨rfl, e⟩
    · rfl
    · exact absurd e hne
    · exact absurd e.symm hne
    · rfl
  dom := fun j k h => by
    rcases pair_some h with ⟨rfl, _⟩ | ⟨rfl, _⟩
    · exact Nat.zero_lt_two
    · exact Nat.one_lt_two
theorem within_none {H : AH} : Within (fun _ => none) ⟨0, []⟩ H := ⟨fun j o h => by simp at h, fun j o h => by simp at h, fun j o o' h h' => by simp at h, fun j j' k h h' => by simp at h, fun j k h => by simp at h⟩
def zps : List Value := List.replicate 4097 z0V
theorem wys_end : wys 4097 = dsT := by
  unfold wys dsT
  simp
theorem th_call {n m : Nat} {e : Int} {sl : List Value} (h : FlatCall Tryz.prog 45 [.agg ⟨[.slice none 0 0]⟩, .slice (some ⟨0, 0, none⟩) n 4097, .slice (some ⟨1, 0, none⟩) m 4097] ⟨2, thO csT dsT⟩ (thV e)) :
    FlatCall Tryz.prog 45 (th9 n m) ⟨10, imO zps (wys 4097)⟩ (thV e) := by
  rw [wys_end]
  exact calls_pull (q := pair 8 9) (within_pair (b := 8) (d := 9) (cs := csT) (ds := dsT) (sz := 0) (tz := 0) rep_inns rep_inns (by decide) (by unfold imO; show _ ∈ [_, _, _, _]; exact List.mem_cons_of_mem _ List.mem_cons_self) (by unfold imO; exact List.mem_cons_self)) rfl h
theorem l2_cells : cellsOf l1 ++ [.int .u8 2, .complex .f64 0 4617315517961601024, .complex .f64 0 0, .float .f64 0] = cellsOf l2 := (cells_app l1 [lastS]).symm
theorem l3_cells : splice (splice (cellsOf l2) 512 [.int .u8 1]) 513 [.complex .f64 0 0] = cellsOf l3 := by kernel_rfl
theorem l1k_end : l1k 128 = l1 := by
  unfold l1k
  rw [List.take_of_length_le (by rw [l1_len]; exact Nat.le_refl _)]
  simp
theorem imN_mem {os : List Value} {x : Nat × AObj} {A : Objs} : x ∈ A → x ∈ A ++ (imN ++ imF2 os ++ [(0, .cells (cellsOf l1) 0)]) := fun h => List.mem_append_left _ h
theorem lift_wall1 {cs os : List Value} {H1 : AH} (hcs : inns 0 cs = true) (hos : inns 0 os = true) (hH1 : (7, .cells os 4) ∈ H1.objs) (hc1 : ∀ ρ w args', Inv ρ ⟨1, [(0, .cells cs 0)]⟩ w → VRels ρ (wlArgs 128 128) args' →
      Calls Tryz.prog 43 ⟨args'⟩ w fun e w' => ∃ ρ' v', e = .returned v' ∧ VRel ρ' (fineV 256 7) v' ∧ Next 1 ρ ⟨1, [(0, .cells cs 0)]⟩ w ρ' H1 w') :
    MemCall Tryz.prog 43 imW1 ⟨1, [(0, .cells cs 0)]⟩ (fineV 256 1) (AH.push ⟨1, [(0, .cells cs 0)]⟩ (.cells os 4)) :=
  calls_lift (q := only 0) (bs := [7]) (A := [(1, .cells os 4)]) (Hc := ⟨1, [(0, .cells cs 0)]⟩) (H := ⟨1, [(0, .cells cs 0)]⟩) (within_only hcs List.mem_cons_self) rfl rfl (fun k o2 hk => by
      simp only [List.mem_singleton, Prod.mk.injEq] at hk
      obtain ⟨rfl, rfl⟩ := hk
      exact ⟨7, _, hH1, rfl, by simp [renO, rens_flat hos]⟩) (fun j hj => by
      simp only [List.mem_singleton] at hj
      subst hj
      show 1 ≤ 7
      omega) hc1
theorem l1k_zero : l1k 0 = List.replicate 128 noEl := by
  unfold l1k
  rw [List.take_zero, List.nil_append]
noncomputable abbrev imL2 (L1 : Hand) : Hand := imL L1 (told Tryz.prog (.exit 2) (imF 4097) ⟨10, imO zps (wys 4097)⟩)
theorem im_rest {os c1 c2 c3 : List Value} {L1 : Hand}
    (h1 : MemCall Tryz.prog 43 imW1 ⟨1, [(0, .cells c1 0)]⟩ (fineV 256 1) (AH.push ⟨1, [(0, .cells c1 0)]⟩ (.cells os 4)))
    (h2 : FlatCall Tryz.prog 43 wl4 ⟨5, (4, .cells c2 4) :: (imN ++ imF2 os ++ [(0, .cells c1 0)])⟩ manyV)
    (h3 : FlatCall Tryz.prog 43 wl4 ⟨6, (4, .cells c3 4) :: (5, .cells [.slice none 0 0] 0) :: (imN ++ imF2 os ++ [(0, .cells c1 0)])⟩ manyV)
    (h4 : FlatCall Tryz.prog 44 ci44 ⟨7, (6, .cells [.slice none 0 0] 0) :: (4, .cells c3 4) :: (5, .cells [.slice none 0 0] 0) :: (imN ++ imF2 os ++ [(0, .cells c1 0)])⟩ manyV)
    (l1' : c1.length = 128 * 4) (l2' : c2.length = 129 * 4) (ha : c1 ++ [.int .u8 2, .complex .f64 0 4617315517961601024, .complex .f64 0 0, .float .f64 0] = c2) (hs : splice (splice c2 512 [.int .u8 1]) 513 [.complex .f64 0 0] = c3)
    (t4 : FlatCall Tryz.prog 45 (th9 4097 4097) ⟨10, imO zps (wys 4097)⟩ (thV 4)) (t0 : FlatCall Tryz.prog 45 (th9 4096 4096) ⟨10, imO zps (wys 4097)⟩ (thV 0)) (ts : FlatCall Tryz.prog 45 (th9 2 1) ⟨10, imO zps (wys 4097)⟩ (thV 140))
    (g1 : FlatCall Tryz.prog 43 [on11, .complex .f64 0 0, .complex .f64 4607182418800017408 0] ⟨13, (12, .cells [.slice (some ⟨11, 0, none⟩) 1 1] 0) :: (onO ++ imO zps (wys 4097))⟩ (wrongV 170))
    (g2 : FlatCall Tryz.prog 44 [on11, .agg ⟨[.complex .f64 0 0, .float .f64 4613937818241073152]⟩] ⟨14, (13, .cells [.slice none 0 0] 0) :: (12, .cells [.slice (some ⟨11, 0, none⟩) 1 1] 0) :: (onO ++ imO zps (wys 4097))⟩ (wrongV 170))
    (g3 : FlatCall Tryz.prog 44 [.agg ⟨[.slice none 0 0]⟩, .agg ⟨[.complex .f64 0 0, .float .f64 4422534834077827072]⟩] ⟨15, (14, .cells [.slice none 0 0] 0) :: (13, .cells [.slice none 0 0] 0) :: (12, .cells [.slice (some ⟨11, 0, none⟩) 1 1] 0) :: (onO ++ imO zps (wys 4097))⟩ (wrongV 5)) :
    evTop (imR os la4) 60 (imL2 L1) 0 187 (seqN 5 (codeOf 7)) (imE 128) ⟨1, [(0, .cells c1 0)]⟩ (takeC [0] [] fun ex e O => some (ex, e, O)) = some (.ret, [(0, .bool true)], []) := by
  have hB0 := imB_rounds (ps := zps) rep_inns
  have hw : wys 0 = List.replicate 4097 z0V := by unfold wys; rw [List.replicate_zero, List.nil_append]
  rw [hw] at hB0
  have hB := @base_loop _ _ _ _ _ _ _ _ _ hB0
  unfold imR
  refine (im_mid rSt (rAp Tryz.prog) _ _ _ _ _ _ _ _ _ _ _ _ c1 128 _).trans ?_
  rw [leaves_eq h1, ap55_ok (n := 128) l1' rfl rfl (by omega) (by omega)]
  simp only [Nat.one_mul, List.drop_zero]
  rw [show ([.int .u8 2, .complex .f64 0 4617315517961601024, .complex .f64 0 0, .float .f64 0] : List Value).take 4 = [.int .u8 2, .complex .f64 0 4617315517961601024, .complex .f64 0 0, .float .f64 0] from rfl, ha, says_eq h2,
    rSt_eq (by rw [l2']; show 512 + 1 ≤ _; omega), rSt_eq (by rw [splice_length (by rw [l2']; show 512 + 1 ≤ _; omega), l2']; show 513 + 1 ≤ _; omega), hs, says_eq h3, says_eq h4]
  refine (told_eq (P := Tryz.prog) (ex := .exit 2) (e' := imF 4097) (H' := ⟨10, imO zps (wys 4097)⟩) @hB _ _).trans ?_
  rw [leave_then]
  refine (im_end rSt (rAp Tryz.prog) _ _ _ _ _ _ _ _ _ _ _ zps (wys 4097) 4097 _).trans ?_
  rw [says_eq t4, says_eq t0, says_eq ts, says_eq g1, says_eq g2, says_eq g3]
theorem im_start {os c1 : List Value} (hA : BaseRounds Tryz.prog 0 187 ⟨1, [(0, .cells (cellsOf (List.replicate 128 noEl)) 0)]⟩ imA (imE 0) ⟨1, [(0, .cells (cellsOf (List.replicate 128 noEl)) 0)]⟩ (.exit 0) (imE 128) ⟨1, [(0, .cells c1 0)]⟩)
    (e : evTop (imR os la4) 60 (imL2 (told Tryz.prog (.exit 0) (imE 128) ⟨1, [(0, .cells c1 0)]⟩)) 0 187 (seqN 5 (codeOf 7)) (imE 128) ⟨1, [(0, .cells c1 0)]⟩ (takeC [0] [] fun ex e O => some (ex, e, O)) = some (.ret, [(0, .bool true)], [])) :
    evTop (imR os la4) 60 (imL2 (told Tryz.prog (.exit 0) (imE 128) ⟨1, [(0, .cells c1 0)]⟩)) 0 187 (codeOf 7) [] ⟨0, []⟩ (takeC [0] [] fun ex e O => some (ex, e, O)) = some (.ret, [(0, .bool true)], []) := by
  have hA' := @base_loop _ _ _ _ _ _ _ _ _ hA
  generalize hz : cellsOf (List.replicate 128 noEl) = z at hA'
  have e1 := im_top rSt (rAp Tryz.prog) (leavesR Tryz.prog 43 4 (fineV 256) os) (saysR Tryz.prog 43 manyV) (saysR Tryz.prog 43 (wrongV 170)) (saysR Tryz.prog 44 manyV) (saysR Tryz.prog 44 (wrongV 170)) (saysR Tryz.prog 44 (wrongV 5)) (saysR Tryz.prog 45 (thV 4)) (saysR Tryz.prog 45 (thV 0)) (saysR Tryz.prog 45 (thV 140))
    (told Tryz.prog (.exit 0) (imE 128) ⟨1, [(0, .cells c1 0)]⟩) (told Tryz.prog (.exit 2) (imF 4097) ⟨10, imO zps (wys 4097)⟩) (Ex × Env × Objs) fun ex e O => some (ex, e, O)
  rw [hz] at e1
  refine e1.trans ((told_eq @hA' _ _).trans ?_)
  rw [leave_then]
  exact e
theorem flat2 (os : List Value) : FlatCall Tryz.prog 43 wl4 ⟨5, (4, .cells (cellsOf l2) 4) :: (imN ++ imF2 os ++ [(0, .cells (cellsOf l1) 0)])⟩ manyV := FlatCall.one (b := 4) (call_wall2 (sz := 4) (c := 129)) (row_cells l2).2.1 List.mem_cons_self rfl
theorem flat3 (os : List Value) : FlatCall Tryz.prog 43 wl4 ⟨6, (4, .cells (cellsOf l3) 4) :: (5, .cells [.slice none 0 0] 0) :: (imN ++ imF2 os ++ [(0, .cells (cellsOf l1) 0)])⟩ manyV := FlatCall.one (b := 4) (call_wall3 (sz := 4) (c := 129)) (row_cells l3).2.1 List.mem_cons_self rfl
theorem flat4 (os : List Value) : FlatCall Tryz.prog 44 ci44 ⟨7, (6, .cells [.slice none 0 0] 0) :: (4, .cells (cellsOf l3) 4) :: (5, .cells [.slice none 0 0] 0) :: (imN ++ imF2 os ++ [(0, .cells (cellsOf l1) 0)])⟩ manyV := FlatCall.one (b := 4) (call_circ3 (sz := 4) (c := 129)) (row_cells l3).2.1 (List.mem_cons_of_mem _ List.mem_cons_self) rfl
theorem fl_t4 : FlatCall Tryz.prog 45 (th9 4097 4097) ⟨10, imO zps (wys 4097)⟩ (thV 4) := th_call (sl := []) (flat_of_heap th_many)
theorem fl_t0 : FlatCall Tryz.prog 45 (th9 4096 4096) ⟨10, imO zps (wys 4097)⟩ (thV 0) := th_call (sl := []) through_calls
theorem fl_ts : FlatCall Tryz.prog 45 (th9 2 1) ⟨10, imO zps (wys 4097)⟩ (thV 140) := th_call (sl := []) (flat_of_heap th_shape)
theorem fl_g1 : FlatCall Tryz.prog 43 [on11, .complex .f64 0 0, .complex .f64 4607182418800017408 0] ⟨13, (12, .cells [.slice (some ⟨11, 0, none⟩) 1 1] 0) :: (onO ++ imO zps (wys 4097))⟩ (wrongV 170) := FlatCall.one (b := 11) (flat_of_heap on_wall) rfl (List.mem_cons_of_mem _ (List.mem_append_left _ (List.mem_cons_of_mem _ List.mem_cons_self))) rfl
theorem fl_g2 : FlatCall Tryz.prog 44 [on11, .agg ⟨[.complex .f64 0 0, .float .f64 4613937818241073152]⟩] ⟨14, (13, .cells [.slice none 0 0] 0) :: (12, .cells [.slice (some ⟨11, 0, none⟩) 1 1] 0) :: (onO ++ imO zps (wys 4097))⟩ (wrongV 170) := FlatCall.one (b := 11) (flat_of_heap on_circ) rfl (List.mem_cons_of_mem _ (List.mem_cons_of_mem _ (List.mem_append_left _ (List.mem_cons_of_mem _ List.mem_cons_self)))) rfl
theorem fl_g3 : FlatCall Tryz.prog 44 [.agg ⟨[.slice none 0 0]⟩, .agg ⟨[.complex .f64 0 0, .float .f64 4422534834077827072]⟩] ⟨15, (14, .cells [.slice none 0 0] 0) :: (13, .cells [.slice none 0 0] 0) :: (12, .cells [.slice (some ⟨11, 0, none⟩) 1 1] 0) :: (onO ++ imO zps (wys 4097))⟩ (wrongV 5) := calls_pull within_none rfl (flat_of_heap no_circ)
theorem im_hand {c1 : List Value} (a : Code) : LOk Tryz.prog (imL2 (told Tryz.prog (.exit 0) (imE 128) ⟨1, [(0, .cells c1 0)]⟩)) a := by
  unfold imL2
  exact orL_ok (slimL_ok (told_ok _ _ _ _ a)) (slimL_ok (told_ok _ _ _ _ a))
theorem im_final {os c1 : List Value} (e : evTop (imR os la4) 60 (imL2 (told Tryz.prog (.exit 0) (imE 128) ⟨1, [(0, .cells c1 0)]⟩)) 0 187 (codeOf 7) [] ⟨0, []⟩ (takeC [0] [] fun ex e O => some (ex, e, O)) = some (.ret, [(0, .bool true)], [])) (w : World) :
    Calls Tryz.prog 7 ⟨[]⟩ w fun e w' => e = .returned (.bool true) ∧ RowKit.Below w.heap.size w w' := by
  have hL : ∀ a ∈ loopsIn (codeOf 7), LOk Tryz.prog (imL2 (told Tryz.prog (.exit 0) (imE 128) ⟨1, [(0, .cells c1 0)]⟩)) a := fun a _ => im_hand a
  generalize imL2 (told Tryz.prog (.exit 0) (imE 128) ⟨1, [(0, .cells c1 0)]⟩) = L at e hL
  exact fun_flat (C := imR os la4) (args := []) (H := ⟨0, []⟩) (imR_ok os la4) zm_ok Tryz.func7 im_body hL (Nat.le_of_ble_eq_true rfl) e (.inr rfl) (vs := [.bool true]) rfl rfl
    (fun _ => none) w [] ⟨fun _ _ => rfl, fun k o h => by simp at h, fun k o o' h => by simp at h, ⟨fun k o h => by simp at h, fun k o k' o' s s' h => by simp at h⟩⟩ .nil
theorem image_calls (w : World) : Calls Tryz.prog 7 ⟨[]⟩ w fun e w' => e = .returned (.bool true) ∧ RowKit.Below w.heap.size w w' := by
  obtain ⟨os, hos, H1, hH1, hc1⟩ := call_wall1 (sz := 0) (c := 128)
  have c1 := lift_wall1 (row_cells l1).2.1 hos hH1 hc1
  have c2 := flat2 os
  have c3 := flat3 os
  have c4 := flat4 os
  have t4 := fl_t4
  have t0 := fl_t0
  have ts := fl_ts
  have g1 := fl_g1
  have g2 := fl_g2
  have g3 := fl_g3
  have hA0 := imA_rounds
  rw [l1k_zero, l1k_end] at hA0
  have e2 := im_rest (L1 := told Tryz.prog (.exit 0) (imE 128) ⟨1, [(0, .cells (cellsOf l1) 0)]⟩) c1 c2 c3 c4 (by rw [(row_cells l1).1, l1_len]) (by rw [(row_cells l2).1, l2_len]) l2_cells l3_cells t4 t0 ts g1 g2 g3
  have e := im_start hA0 e2
  exact im_final e w
end Go.Vm
