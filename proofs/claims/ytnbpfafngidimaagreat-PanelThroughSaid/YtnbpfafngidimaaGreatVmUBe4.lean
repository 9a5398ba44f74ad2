/- A part of the evaluator and of what is told of floats; no conditions. -/
import Derived.Test.YtnbpfafngidimaaGreatVmRD4
namespace Go.Vm
open Go.Proofs
set_option linter.unusedVariables false
set_option maxRecDepth 1000000
/-! ### 4 unknowns: the equations -/
theorem pv_4_0_0 : ∀ j, j < 1 → EqPv 4 0 1 (0 + j) := by
  repeat' first | exact lt_none | refine lt_split ?_ ?_
  all_goals (intro R ab fn oo fi ps os W K; kernel_rfl)
theorem pv_4_0_1 : ∀ j, j < 2 → EqPv 4 0 2 (0 + j) := by
  repeat' first | exact lt_none | refine lt_split ?_ ?_
  all_goals (intro R ab fn oo fi ps os W K; kernel_rfl)
theorem pv_4_0_2 : ∀ j, j < 3 → EqPv 4 0 3 (0 + j) := by
  repeat' first | exact lt_none | refine lt_split ?_ ?_
  all_goals (intro R ab fn oo fi ps os W K; kernel_rfl)
theorem px_4_0 : ∀ j, j < 4 → EqPx 4 0 (0 + j) := by
  repeat' first | exact lt_none | refine lt_split ?_ ?_
  all_goals (intro R ab fn oo fi ps os W K; kernel_rfl)
theorem row_4_0 : ∀ r, r < 3 → EqRow 4 0 r := by
  repeat' first | exact lt_none | refine lt_split ?_ ?_
  all_goals (intro R ab fn oo fi ps os W x K; kernel_rfl)
theorem rx_4_0 : EqRx 4 0 := by intro R ab fn oo fi ps os W x K; kernel_rfl
theorem mid_4_0 : ∀ j, j < 4 → EqMid 4 0 (0 + j) := by
  repeat' first | exact lt_none | refine lt_split ?_ ?_
  all_goals (intro R ab fn oo fi fi' ps ps' os os' W W' g1 g2 K; kernel_rfl)
theorem pv_4_1_0 : ∀ j, j < 1 → EqPv 4 1 2 (1 + j) := by
  repeat' first | exact lt_none | refine lt_split ?_ ?_
  all_goals (intro R ab fn oo fi ps os W K; kernel_rfl)
theorem pv_4_1_1 : ∀ j, j < 2 → EqPv 4 1 3 (1 + j) := by
  repeat' first | exact lt_none | refine lt_split ?_ ?_
  all_goals (intro R ab fn oo fi ps os W K; kernel_rfl)
theorem px_4_1 : ∀ j, j < 3 → EqPx 4 1 (1 + j) := by
  repeat' first | exact lt_none | refine lt_split ?_ ?_
  all_goals (intro R ab fn oo fi ps os W K; kernel_rfl)
theorem row_4_1 : ∀ r, r < 2 → EqRow 4 1 r := by
  repeat' first | exact lt_none | refine lt_split ?_ ?_
  all_goals (intro R ab fn oo fi ps os W x K; kernel_rfl)
theorem rx_4_1 : EqRx 4 1 := by intro R ab fn oo fi ps os W x K; kernel_rfl
theorem mid_4_1 : ∀ j, j < 3 → EqMid 4 1 (1 + j) := by
  repeat' first | exact lt_none | refine lt_split ?_ ?_
  all_goals (intro R ab fn oo fi fi' ps ps' os os' W W' g1 g2 K; kernel_rfl)
theorem pv_4_2_0 : ∀ j, j < 1 → EqPv 4 2 3 (2 + j) := by
  repeat' first | exact lt_none | refine lt_split ?_ ?_
  all_goals (intro R ab fn oo fi ps os W K; kernel_rfl)
theorem px_4_2 : ∀ j, j < 2 → EqPx 4 2 (2 + j) := by
  repeat' first | exact lt_none | refine lt_split ?_ ?_
  all_goals (intro R ab fn oo fi ps os W K; kernel_rfl)
theorem row_4_2 : ∀ r, r < 1 → EqRow 4 2 r := by
  repeat' first | exact lt_none | refine lt_split ?_ ?_
  all_goals (intro R ab fn oo fi ps os W x K; kernel_rfl)
theorem rx_4_2 : EqRx 4 2 := by intro R ab fn oo fi ps os W x K; kernel_rfl
theorem mid_4_2 : ∀ j, j < 2 → EqMid 4 2 (2 + j) := by
  repeat' first | exact lt_none | refine lt_split ?_ ?_
  all_goals (intro R ab fn oo fi fi' ps ps' os os' W W' g1 g2 K; kernel_rfl)
theorem px_4_3 : ∀ j, j < 1 → EqPx 4 3 (3 + j) := by
  repeat' first | exact lt_none | refine lt_split ?_ ?_
  all_goals (intro R ab fn oo fi ps os W K; kernel_rfl)
theorem rx_4_3 : EqRx 4 3 := by intro R ab fn oo fi ps os W x K; kernel_rfl
theorem mid_4_3 : ∀ j, j < 1 → EqMid 4 3 (3 + j) := by
  repeat' first | exact lt_none | refine lt_split ?_ ?_
  all_goals (intro R ab fn oo fi fi' ps ps' os os' W W' g1 g2 K; kernel_rfl)
theorem ren_4_0 : ∀ j, j < 4 → EqRen 4 0 (0 + j) := by
  repeat' first | exact lt_none | refine lt_split ?_ ?_
  all_goals (intro oo fi ps os W x; exact ⟨by kernel_rfl, by kernel_rfl⟩)
theorem ren_4_1 : ∀ j, j < 3 → EqRen 4 1 (1 + j) := by
  repeat' first | exact lt_none | refine lt_split ?_ ?_
  all_goals (intro oo fi ps os W x; exact ⟨by kernel_rfl, by kernel_rfl⟩)
theorem ren_4_2 : ∀ j, j < 2 → EqRen 4 2 (2 + j) := by
  repeat' first | exact lt_none | refine lt_split ?_ ?_
  all_goals (intro oo fi ps os W x; exact ⟨by kernel_rfl, by kernel_rfl⟩)
theorem ren_4_3 : ∀ j, j < 1 → EqRen 4 3 (3 + j) := by
  repeat' first | exact lt_none | refine lt_split ?_ ?_
  all_goals (intro oo fi ps os W x; exact ⟨by kernel_rfl, by kernel_rfl⟩)
theorem end_4 : EqEnd 4 := by intro R ab fn oo fi ps os W K; kernel_rfl
theorem eqs_4 : Eqs 4 where
  pv := (lt_split (lt_split (lt_split (lt_split lt_none (lt_split (lt_split (lt_split lt_none pv_4_0_0) pv_4_0_1) pv_4_0_2)) (lt_split (lt_split lt_none pv_4_1_0) pv_4_1_1)) (lt_split lt_none pv_4_2_0)) lt_none)
  px := (lt_split (lt_split (lt_split (lt_split lt_none px_4_0) px_4_1) px_4_2) px_4_3)
  row := (lt_split (lt_split (lt_split (lt_split lt_none row_4_0) row_4_1) row_4_2) lt_none)
  rx := (lt_split (lt_split (lt_split (lt_split lt_none rx_4_0) rx_4_1) rx_4_2) rx_4_3)
  mid := (lt_split (lt_split (lt_split (lt_split lt_none mid_4_0) mid_4_1) mid_4_2) mid_4_3)
  ren := (lt_split (lt_split (lt_split (lt_split lt_none ren_4_0) ren_4_1) ren_4_2) ren_4_3)
  fin := end_4
end Go.Vm
namespace Go.Vm
open Go.Proofs
set_option linter.unusedVariables false
set_option maxRecDepth 1000000
/-! ### 5 unknowns: the equations -/
theorem pv_5_0_0 : ∀ j, j < 1 → EqPv 5 0 1 (0 + j) := by
  repeat' first | exact lt_none | refine lt_split ?_ ?_
  all_goals (intro R ab fn oo fi ps os W K; kernel_rfl)
theorem pv_5_0_1 : ∀ j, j < 2 → EqPv 5 0 2 (0 + j) := by
  repeat' first | exact lt_none | refine lt_split ?_ ?_
  all_goals (intro R ab fn oo fi ps os W K; kernel_rfl)
theorem pv_5_0_2 : ∀ j, j < 3 → EqPv 5 0 3 (0 + j) := by
  repeat' first | exact lt_none | refine lt_split ?_ ?_
  all_goals (intro R ab fn oo fi ps os W K; kernel_rfl)
theorem pv_5_0_3 : ∀ j, j < 4 → EqPv 5 0 4 (0 + j) := by
  repeat' first | exact lt_none | refine lt_split ?_ ?_
  all_goals (intro R ab fn oo fi ps os W K; kernel_rfl)
theorem px_5_0 : ∀ j, j < 5 → EqPx 5 0 (0 + j) := by
  repeat' first | exact lt_none | refine lt_split ?_ ?_
  all_goals (intro R ab fn oo fi ps os W K; kernel_rfl)
theorem row_5_0 : ∀ r, r < 4 → EqRow 5 0 r := by
  repeat' first | exact lt_none | refine lt_split ?_ ?_
  all_goals (intro R ab fn oo fi ps os W x K; kernel_rfl)
theorem rx_5_0 : EqRx 5 0 := by intro R ab fn oo fi ps os W x K; kernel_rfl
theorem mid_5_0 : ∀ j, j < 5 → EqMid 5 0 (0 + j) := by
  repeat' first | exact lt_none | refine lt_split ?_ ?_
  all_goals (intro R ab fn oo fi fi' ps ps' os os' W W' g1 g2 K; kernel_rfl)
theorem pv_5_1_0 : ∀ j, j < 1 → EqPv 5 1 2 (1 + j) := by
  repeat' first | exact lt_none | refine lt_split ?_ ?_
  all_goals (intro R ab fn oo fi ps os W K; kernel_rfl)
theorem pv_5_1_1 : ∀ j, j < 2 → EqPv 5 1 3 (1 + j) := by
  repeat' first | exact lt_none | refine lt_split ?_ ?_
  all_goals (intro R ab fn oo fi ps os W K; kernel_rfl)
theorem pv_5_1_2 : ∀ j, j < 3 → EqPv 5 1 4 (1 + j) := by
  repeat' first | exact lt_none | refine lt_split ?_ ?_
  all_goals (intro R ab fn oo fi ps os W K; kernel_rfl)
theorem px_5_1 : ∀ j, j < 4 → EqPx 5 1 (1 + j) := by
  repeat' first | exact lt_none | refine lt_split ?_ ?_
  all_goals (intro R ab fn oo fi ps os W K; kernel_rfl)
theorem row_5_1 : ∀ r, r < 3 → EqRow 5 1 r := by
  repeat' first | exact lt_none | refine lt_split ?_ ?_
  all_goals (intro R ab fn oo fi ps os W x K; kernel_rfl)
theorem rx_5_1 : EqRx 5 1 := by intro R ab fn oo fi ps os W x K; kernel_rfl
theorem mid_5_1 : ∀ j, j < 4 → EqMid 5 1 (1 + j) := by
  repeat' first | exact lt_none | refine lt_split ?_ ?_
  all_goals (intro R ab fn oo fi fi' ps ps' os os' W W' g1 g2 K; kernel_rfl)
theorem pv_5_2_0 : ∀ j, j < 1 → EqPv 5 2 3 (2 + j) := by
  repeat' first | exact lt_none | refine lt_split ?_ ?_
  all_goals (intro R ab fn oo fi ps os W K; kernel_rfl)
theorem pv_5_2_1 : ∀ j, j < 2 → EqPv 5 2 4 (2 + j) := by
  repeat' first | exact lt_none | refine lt_split ?_ ?_
  all_goals (intro R ab fn oo fi ps os W K; kernel_rfl)
theorem px_5_2 : ∀ j, j < 3 → EqPx 5 2 (2 + j) := by
  repeat' first | exact lt_none | refine lt_split ?_ ?_
  all_goals (intro R ab fn oo fi ps os W K; kernel_rfl)
theorem row_5_2 : ∀ r, r < 2 → EqRow 5 2 r := by
  repeat' first | exact lt_none | refine lt_split ?_ ?_
  all_goals (intro R ab fn oo fi ps os W x K; kernel_rfl)
theorem rx_5_2 : EqRx 5 2 := by intro R ab fn oo fi ps os W x K; kernel_rfl
theorem mid_5_2 : ∀ j, j < 3 → EqMid 5 2 (2 + j) := by
  repeat' first | exact lt_none | refine lt_split ?_ ?_
  all_goals (intro R ab fn oo fi fi' ps ps' os os' W W' g1 g2 K; kernel_rfl)
theorem pv_5_3_0 : ∀ j, j < 1 → EqPv 5 3 4 (3 + j) := by
  repeat' first | exact lt_none | refine lt_split ?_ ?_
  all_goals (intro R ab fn oo fi ps os W K; kernel_rfl)
theorem px_5_3 : ∀ j, j < 2 → EqPx 5 3 (3 + j) := by
  repeat' first | exact lt_none | refine lt_split ?_ ?_
  all_goals (intro R ab fn oo fi ps os W K; kernel_rfl)
theorem row_5_3 : ∀ r, r < 1 → EqRow 5 3 r := by
  repeat' first | exact lt_none | refine lt_split ?_ ?_
  all_goals (intro R ab fn oo fi ps os W x K; kernel_rfl)
theorem rx_5_3 : EqRx 5 3 := by intro R ab fn oo fi ps os W x K; kernel_rfl
theorem mid_5_3 : ∀ j, j < 2 → EqMid 5 3 (3 + j) := by
  repeat' first | exact lt_none | refine lt_split ?_ ?_
  all_goals (intro R ab fn oo fi fi' ps ps' os os' W W' g1 g2 K; kernel_rfl)
theorem px_5_4 : ∀ j, j < 1 → EqPx 5 4 (4 + j) := by
  repeat' first | exact lt_none | refine lt_split ?_ ?_
  all_goals (intro R ab fn oo fi ps os W K; kernel_rfl)
theorem rx_5_4 : EqRx 5 4 := by intro R ab fn oo fi ps os W x K; kernel_rfl
theorem mid_5_4 : ∀ j, j < 1 → EqMid 5 4 (4 + j) := by
  repeat' first | exact lt_none | refine lt_split ?_ ?_
  all_goals (intro R ab fn oo fi fi' ps ps' os os' W W' g1 g2 K; kernel_rfl)
theorem ren_5_0 : ∀ j, j < 5 → EqRen 5 0 (0 + j) := by
  repeat' first | exact lt_none | refine lt_split ?_ ?_
  all_goals (intro oo fi ps os W x; exact ⟨by kernel_rfl, by kernel_rfl⟩)
theorem ren_5_1 : ∀ j, j < 4 → EqRen 5 1 (1 + j) := by
  repeat' first | exact lt_none | refine lt_split ?_ ?_
  all_goals (intro oo fi ps os W x; exact ⟨by kernel_rfl, by kernel_rfl⟩)
theorem ren_5_2 : ∀ j, j < 3 → EqRen 5 2 (2 + j) := by
  repeat' first | exact lt_none | refine lt_split ?_ ?_
  all_goals (intro oo fi ps os W x; exact ⟨by kernel_rfl, by kernel_rfl⟩)
theorem ren_5_3 : ∀ j, j < 2 → EqRen 5 3 (3 + j) := by
  repeat' first | exact lt_none | refine lt_split ?_ ?_
  all_goals (intro oo fi ps os W x; exact ⟨by kernel_rfl, by kernel_rfl⟩)
theorem ren_5_4 : ∀ j, j < 1 → EqRen 5 4 (4 + j) := by
  repeat' first | exact lt_none | refine lt_split ?_ ?_
  all_goals (intro oo fi ps os W x; exact ⟨by kernel_rfl, by kernel_rfl⟩)
theorem end_5 : EqEnd 5 := by intro R ab fn oo fi ps os W K; kernel_rfl
theorem eqs_5 : Eqs 5 where
  pv := (lt_split (lt_split (lt_split (lt_split (lt_split lt_none (lt_split (lt_split (lt_split (lt_split lt_none pv_5_0_0) pv_5_0_1) pv_5_0_2) pv_5_0_3)) (lt_split (lt_split (lt_split lt_none pv_5_1_0) pv_5_1_1) pv_5_1_2)) (lt_split (lt_split lt_none pv_5_2_0) pv_5_2_1)) (lt_split lt_none pv_5_3_0)) lt_none)
  px := (lt_split (lt_split (lt_split (lt_split (lt_split lt_none px_5_0) px_5_1) px_5_2) px_5_3) px_5_4)
  row := (lt_split (lt_split (lt_split (lt_split (lt_split lt_none row_5_0) row_5_1) row_5_2) row_5_3) lt_none)
  rx := (lt_split (lt_split (lt_split (lt_split (lt_split lt_none rx_5_0) rx_5_1) rx_5_2) rx_5_3) rx_5_4)
  mid := (lt_split (lt_split (lt_split (lt_split (lt_split lt_none mid_5_0) mid_5_1) mid_5_2) mid_5_3) mid_5_4)
  ren := (lt_split (lt_split (lt_split (lt_split (lt_split lt_none ren_5_0) ren_5_1) ren_5_2) ren_5_3) ren_5_4)
  fin := end_5
end Go.Vm
namespace Go.Vm
open Go.Proofs
set_option linter.unusedVariables false
set_option maxRecDepth 1000000
/-! ### 6 unknowns: the equations -/
theorem pv_6_0_0 : ∀ j, j < 1 → EqPv 6 0 1 (0 + j) := by
  repeat' first | exact lt_none | refine lt_split ?_ ?_
  all_goals (intro R ab fn oo fi ps os W K; kernel_rfl)
theorem pv_6_0_1 : ∀ j, j < 2 → EqPv 6 0 2 (0 + j) := by
  repeat' first | exact lt_none | refine lt_split ?_ ?_
  all_goals (intro R ab fn oo fi ps os W K; kernel_rfl)
theorem pv_6_0_2 : ∀ j, j < 3 → EqPv 6 0 3 (0 + j) := by
  repeat' first | exact lt_none | refine lt_split ?_ ?_
  all_goals (intro R ab fn oo fi ps os W K; kernel_rfl)
theorem pv_6_0_3 : ∀ j, j < 4 → EqPv 6 0 4 (0 + j) := by
  repeat' first | exact lt_none | refine lt_split ?_ ?_
  all_goals (intro R ab fn oo fi ps os W K; kernel_rfl)
theorem pv_6_0_4 : ∀ j, j < 5 → EqPv 6 0 5 (0 + j) := by
  repeat' first | exact lt_none | refine lt_split ?_ ?_
  all_goals (intro R ab fn oo fi ps os W K; kernel_rfl)
theorem px_6_0 : ∀ j, j < 6 → EqPx 6 0 (0 + j) := by
  repeat' first | exact lt_none | refine lt_split ?_ ?_
  all_goals (intro R ab fn oo fi ps os W K; kernel_rfl)
theorem row_6_0 : ∀ r, r < 5 → EqRow 6 0 r := by
  repeat' first | exact lt_none | refine lt_split ?_ ?_
  all_goals (intro R ab fn oo fi ps os W x K; kernel_rfl)
theorem rx_6_0 : EqRx 6 0 := by intro R ab fn oo fi ps os W x K; kernel_rfl
theorem mid_6_0 : ∀ j, j < 6 → EqMid 6 0 (0 + j) := by
  repeat' first | exact lt_none | refine lt_split ?_ ?_
  all_goals (intro R ab fn oo fi fi' ps ps' os os' W W' g1 g2 K; kernel_rfl)
theorem pv_6_1_0 : ∀ j, j < 1 → EqPv 6 1 2 (1 + j) := by
  repeat' first | exact lt_none | refine lt_split ?_ ?_
  all_goals (intro R ab fn oo fi ps os W K; kernel_rfl)
theorem pv_6_1_1 : ∀ j, j < 2 → EqPv 6 1 3 (1 + j) := by
  repeat' first | exact lt_none | refine lt_split ?_ ?_
  all_goals (intro R ab fn oo fi ps os W K; kernel_rfl)
theorem pv_6_1_2 : ∀ j, j < 3 → EqPv 6 1 4 (1 + j) := by
  repeat' first | exact lt_none | refine lt_split ?_ ?_
  all_goals (intro R ab fn oo fi ps os W K; kernel_rfl)
theorem pv_6_1_3 : ∀ j, j < 4 → EqPv 6 1 5 (1 + j) := by
  repeat' first | exact lt_none | refine lt_split ?_ ?_
  all_goals (intro R ab fn oo fi ps os W K; kernel_rfl)
theorem px_6_1 : ∀ j, j < 5 → EqPx 6 1 (1 + j) := by
  repeat' first | exact lt_none | refine lt_split ?_ ?_
  all_goals (intro R ab fn oo fi ps os W K; kernel_rfl)
theorem row_6_1 : ∀ r, r < 4 → EqRow 6 1 r := by
  repeat' first | exact lt_none | refine lt_split ?_ ?_
  all_goals (intro R ab fn oo fi ps os W x K; kernel_rfl)
theorem rx_6_1 : EqRx 6 1 := by intro R ab fn oo fi ps os W x K; kernel_rfl
theorem mid_6_1 : ∀ j, j < 5 → EqMid 6 1 (1 + j) := by
  repeat' first | exact lt_none | refine lt_split ?_ ?_
  all_goals (intro R ab fn oo fi fi' ps ps' os os' W W' g1 g2 K; kernel_rfl)
theorem pv_6_2_0 : ∀ j, j < 1 → EqPv 6 2 3 (2 + j) := by
  repeat' first | exact lt_none | refine lt_split ?_ ?_
  all_goals (intro R ab fn oo fi ps os W K; kernel_rfl)
theorem pv_6_2_1 : ∀ j, j < 2 → EqPv 6 2 4 (2 + j) := by
  repeat' first | exact lt_none | refine lt_split ?_ ?_
  all_goals (intro R ab fn oo fi ps os W K; kernel_rfl)
theorem pv_6_2_2 : ∀ j, j < 3 → EqPv 6 2 5 (2 + j) := by
  repeat' first | exact lt_none | refine lt_split ?_ ?_
  all_goals (intro R ab fn oo fi ps os W K; kernel_rfl)
theorem px_6_2 : ∀ j, j < 4 → EqPx 6 2 (2 + j) := by
  repeat' first | exact lt_none | refine lt_split ?_ ?_
  all_goals (intro R ab fn oo fi ps os W K; kernel_rfl)
theorem row_6_2 : ∀ r, r < 3 → EqRow 6 2 r := by
  repeat' first | exact lt_none | refine lt_split ?_ ?_
  all_goals (intro R ab fn oo fi ps os W x K; kernel_rfl)
theorem rx_6_2 : EqRx 6 2 := by intro R ab fn oo fi ps os W x K; kernel_rfl
theorem mid_6_2 : ∀ j, j < 4 → EqMid 6 2 (2 + j) := by
  repeat' first | exact lt_none | refine lt_split ?_ ?_
  all_goals (intro R ab fn oo fi fi' ps ps' os os' W W' g1 g2 K; kernel_rfl)
theorem pv_6_3_0 : ∀ j, j < 1 → EqPv 6 3 4 (3 + j) := by
  repeat' first | exact lt_none | refine lt_split ?_ ?_
  all_goals (intro R ab fn oo fi ps os W K; kernel_rfl)
theorem pv_6_3_1 : ∀ j, j < 2 → EqPv 6 3 5 (3 + j) := by
  repeat' first | exact lt_none | refine lt_split ?_ ?_
  all_goals (intro R ab fn oo fi ps os W K; kernel_rfl)
theorem px_6_3 : ∀ j, j < 3 → EqPx 6 3 (3 + j) := by
  repeat' first | exact lt_none | refine lt_split ?_ ?_
  all_goals (intro R ab fn oo fi ps os W K; kernel_rfl)
theorem row_6_3 : ∀ r, r < 2 → EqRow 6 3 r := by
  repeat' first | exact lt_none | refine lt_split ?_ ?_
  all_goals (intro R ab fn oo fi ps os W x K; kernel_rfl)
theorem rx_6_3 : EqRx 6 3 := by intro R ab fn oo fi ps os W x K; kernel_rfl
theorem mid_6_3 : ∀ j, j < 3 → EqMid 6 3 (3 + j) := by
  repeat' first | exact lt_none | refine lt_split ?_ ?_
  all_goals (intro R ab fn oo fi fi' ps ps' os os' W W' g1 g2 K; kernel_rfl)
theorem pv_6_4_0 : ∀ j, j < 1 → EqPv 6 4 5 (4 + j) := by
  repeat' first | exact lt_none | refine lt_split ?_ ?_
  all_goals (intro R ab fn oo fi ps os W K; kernel_rfl)
theorem px_6_4 : ∀ j, j < 2 → EqPx 6 4 (4 + j) := by
  repeat' first | exact lt_none | refine lt_split ?_ ?_
  all_goals (intro R ab fn oo fi ps os W K; kernel_rfl)
theorem row_6_4 : ∀ r, r < 1 → EqRow 6 4 r := by
  repeat' first | exact lt_none | refine lt_split ?_ ?_
  all_goals (intro R ab fn oo fi ps os W x K; kernel_rfl)
theorem rx_6_4 : EqRx 6 4 := by intro R ab fn oo fi ps os W x K; kernel_rfl
theorem mid_6_4 : ∀ j, j < 2 → EqMid 6 4 (4 + j) := by
  repeat' first | exact lt_none | refine lt_split ?_ ?_
  all_goals (intro R ab fn oo fi fi' ps ps' os os' W W' g1 g2 K; kernel_rfl)
theorem px_6_5 : ∀ j, j < 1 → EqPx 6 5 (5 + j) := by
  repeat' first | exact lt_none | refine lt_split ?_ ?_
  all_goals (intro R ab fn oo fi ps os W K; kernel_rfl)
theorem rx_6_5 : EqRx 6 5 := by intro R ab fn oo fi ps os W x K; kernel_rfl
theorem mid_6_5 : ∀ j, j < 1 → EqMid 6 5 (5 + j) := by
  repeat' first | exact lt_none | refine lt_split ?_ ?_
  all_goals (intro R ab fn oo fi fi' ps ps' os os' W W' g1 g2 K; kernel_rfl)
theorem ren_6_0 : ∀ j, j < 6 → EqRen 6 0 (0 + j) := by
  repeat' first | exact lt_none | refine lt_split ?_ ?_
  all_goals (intro oo fi ps os W x; exact ⟨by kernel_rfl, by kernel_rfl⟩)
theorem ren_6_1 : ∀ j, j < 5 → EqRen 6 1 (1 + j) := by
  repeat' first | exact lt_none | refine lt_split ?_ ?_
  all_goals (intro oo fi ps os W x; exact ⟨by kernel_rfl, by kernel_rfl⟩)
theorem ren_6_2 : ∀ j, j < 4 → EqRen 6 2 (2 + j) := by
  repeat' first | exact lt_none | refine lt_split ?_ ?_
  all_goals (intro oo fi ps os W x; exact ⟨by kernel_rfl, by kernel_rfl⟩)
theorem ren_6_3 : ∀ j, j < 3 → EqRen 6 3 (3 + j) := by
  repeat' first | exact lt_none | refine lt_split ?_ ?_
  all_goals (intro oo fi ps os W x; exact ⟨by kernel_rfl, by kernel_rfl⟩)
theorem ren_6_4 : ∀ j, j < 2 → EqRen 6 4 (4 + j) := by
  repeat' first | exact lt_none | refine lt_split ?_ ?_
  all_goals (intro oo fi ps os W x; exact ⟨by kernel_rfl, by kernel_rfl⟩)
theorem ren_6_5 : ∀ j, j < 1 → EqRen 6 5 (5 + j) := by
  repeat' first | exact lt_none | refine lt_split ?_ ?_
  all_goals (intro oo fi ps os W x; exact ⟨by kernel_rfl, by kernel_rfl⟩)
theorem end_6 : EqEnd 6 := by intro R ab fn oo fi ps os W K; kernel_rfl
theorem eqs_6 : Eqs 6 where
  pv := (lt_split (lt_split (lt_split (lt_split (lt_split (lt_split lt_none (lt_split (lt_split (lt_split (lt_split (lt_split lt_none pv_6_0_0) pv_6_0_1) pv_6_0_2) pv_6_0_3) pv_6_0_4)) (lt_split (lt_split (lt_split (lt_split lt_none pv_6_1_0) pv_6_1_1) pv_6_1_2) pv_6_1_3)) (lt_split (lt_split (lt_split lt_none pv_6_2_0) pv_6_2_1) pv_6_2_2)) (lt_split (lt_split lt_none pv_6_3_0) pv_6_3_1)) (lt_split lt_none pv_6_4_0)) lt_none)
  px := (lt_split (lt_split (lt_split (lt_split (lt_split (lt_split lt_none px_6_0) px_6_1) px_6_2) px_6_3) px_6_4) px_6_5)
  row := (lt_split (lt_split (lt_split (lt_split (lt_split (lt_split lt_none row_6_0) row_6_1) row_6_2) row_6_3) row_6_4) lt_none)
  rx := (lt_split (lt_split (lt_split (lt_split (lt_split (lt_split lt_none rx_6_0) rx_6_1) rx_6_2) rx_6_3) rx_6_4) rx_6_5)
  mid := (lt_split (lt_split (lt_split (lt_split (lt_split (lt_split lt_none mid_6_0) mid_6_1) mid_6_2) mid_6_3) mid_6_4) mid_6_5)
  ren := (lt_split (lt_split (lt_split (lt_split (lt_split (lt_split lt_none ren_6_0) ren_6_1) ren_6_2) ren_6_3) ren_6_4) ren_6_5)
  fin := end_6
end Go.Vm
namespace Go.Vm
open Go.Proofs
set_option linter.unusedVariables false
set_option maxRecDepth 1000000
/-! ### 7 unknowns: the equations -/
theorem pv_7_0_0 : ∀ j, j < 1 → EqPv 7 0 1 (0 + j) := by
  repeat' first | exact lt_none | refine lt_split ?_ ?_
  all_goals (intro R ab fn oo fi ps os W K; kernel_rfl)
theorem pv_7_0_1 : ∀ j, j < 2 → EqPv 7 0 2 (0 + j) := by
  repeat' first | exact lt_none | refine lt_split ?_ ?_
  all_goals (intro R ab fn oo fi ps os W K; kernel_rfl)
theorem pv_7_0_2 : ∀ j, j < 3 → EqPv 7 0 3 (0 + j) := by
  repeat' first | exact lt_none | refine lt_split ?_ ?_
  all_goals (intro R ab fn oo fi ps os W K; kernel_rfl)
theorem pv_7_0_3 : ∀ j, j < 4 → EqPv 7 0 4 (0 + j) := by
  repeat' first | exact lt_none | refine lt_split ?_ ?_
  all_goals (intro R ab fn oo fi ps os W K; kernel_rfl)
theorem pv_7_0_4 : ∀ j, j < 5 → EqPv 7 0 5 (0 + j) := by
  repeat' first | exact lt_none | refine lt_split ?_ ?_
  all_goals (intro R ab fn oo fi ps os W K; kernel_rfl)
theorem pv_7_0_5 : ∀ j, j < 6 → EqPv 7 0 6 (0 + j) := by
  repeat' first | exact lt_none | refine lt_split ?_ ?_
  all_goals (intro R ab fn oo fi ps os W K; kernel_rfl)
theorem px_7_0 : ∀ j, j < 7 → EqPx 7 0 (0 + j) := by
  repeat' first | exact lt_none | refine lt_split ?_ ?_
  all_goals (intro R ab fn oo fi ps os W K; kernel_rfl)
theorem row_7_0 : ∀ r, r < 6 → EqRow 7 0 r := by
  repeat' first | exact lt_none | refine lt_split ?_ ?_
  all_goals (intro R ab fn oo fi ps os W x K; kernel_rfl)
theorem rx_7_0 : EqRx 7 0 := by intro R ab fn oo fi ps os W x K; kernel_rfl
theorem mid_7_0 : ∀ j, j < 7 → EqMid 7 0 (0 + j) := by
  repeat' first | exact lt_none | refine lt_split ?_ ?_
  all_goals (intro R ab fn oo fi fi' ps ps' os os' W W' g1 g2 K; kernel_rfl)
theorem pv_7_1_0 : ∀ j, j < 1 → EqPv 7 1 2 (1 + j) := by
  repeat' first | exact lt_none | refine lt_split ?_ ?_
  all_goals (intro R ab fn oo fi ps os W K; kernel_rfl)
theorem pv_7_1_1 : ∀ j, j < 2 → EqPv 7 1 3 (1 + j) := by
  repeat' first | exact lt_none | refine lt_split ?_ ?_
  all_goals (intro R ab fn oo fi ps os W K; kernel_rfl)
theorem pv_7_1_2 : ∀ j, j < 3 → EqPv 7 1 4 (1 + j) := by
  repeat' first | exact lt_none | refine lt_split ?_ ?_
  all_goals (intro R ab fn oo fi ps os W K; kernel_rfl)
theorem pv_7_1_3 : ∀ j, j < 4 → EqPv 7 1 5 (1 + j) := by
  repeat' first | exact lt_none | refine lt_split ?_ ?_
  all_goals (intro R ab fn oo fi ps os W K; kernel_rfl)
theorem pv_7_1_4 : ∀ j, j < 5 → EqPv 7 1 6 (1 + j) := by
  repeat' first | exact lt_none | refine lt_split ?_ ?_
  all_goals (intro R ab fn oo fi ps os W K; kernel_rfl)
theorem px_7_1 : ∀ j, j < 6 → EqPx 7 1 (1 + j) := by
  repeat' first | exact lt_none | refine lt_split ?_ ?_
  all_goals (intro R ab fn oo fi ps os W K; kernel_rfl)
theorem row_7_1 : ∀ r, r < 5 → EqRow 7 1 r := by
  repeat' first | exact lt_none | refine lt_split ?_ ?_
  all_goals (intro R ab fn oo fi ps os W x K; kernel_rfl)
theorem rx_7_1 : EqRx 7 1 := by intro R ab fn oo fi ps os W x K; kernel_rfl
theorem mid_7_1 : ∀ j, j < 6 → EqMid 7 1 (1 + j) := by
  repeat' first | exact lt_none | refine lt_split ?_ ?_
  all_goals (intro R ab fn oo fi fi' ps ps' os os' W W' g1 g2 K; kernel_rfl)
theorem pv_7_2_0 : ∀ j, j < 1 → EqPv 7 2 3 (2 + j) := by
  repeat' first | exact lt_none | refine lt_split ?_ ?_
  all_goals (intro R ab fn oo fi ps os W K; kernel_rfl)
theorem pv_7_2_1 : ∀ j, j < 2 → EqPv 7 2 4 (2 + j) := by
  repeat' first | exact lt_none | refine lt_split ?_ ?_
  all_goals (intro R ab fn oo fi ps os W K; kernel_rfl)
theorem pv_7_2_2 : ∀ j, j < 3 → EqPv 7 2 5 (2 + j) := by
  repeat' first | exact lt_none | refine lt_split ?_ ?_
  all_goals (intro R ab fn oo fi ps os W K; kernel_rfl)
theorem pv_7_2_3 : ∀ j, j < 4 → EqPv 7 2 6 (2 + j) := by
  repeat' first | exact lt_none | refine lt_split ?_ ?_
  all_goals (intro R ab fn oo fi ps os W K; kernel_rfl)
theorem px_7_2 : ∀ j, j < 5 → EqPx 7 2 (2 + j) := by
  repeat' first | exact lt_none | refine lt_split ?_ ?_
  all_goals (intro R ab fn oo fi ps os W K; kernel_rfl)
theorem row_7_2 : ∀ r, r < 4 → EqRow 7 2 r := by
  repeat' first | exact lt_none | refine lt_split ?_ ?_
  all_goals (intro R ab fn oo fi ps os W x K; kernel_rfl)
theorem rx_7_2 : EqRx 7 2 := by intro R ab fn oo fi ps os W x K; kernel_rfl
theorem mid_7_2 : ∀ j, j < 5 → EqMid 7 2 (2 + j) := by
  repeat' first | exact lt_none | refine lt_split ?_ ?_
  all_goals (intro R ab fn oo fi fi' ps ps' os os' W W' g1 g2 K; kernel_rfl)
theorem pv_7_3_0 : ∀ j, j < 1 → EqPv 7 3 4 (3 + j) := by
  repeat' first | exact lt_none | refine lt_split ?_ ?_
  all_goals (intro R ab fn oo fi ps os W K; kernel_rfl)
theorem pv_7_3_1 : ∀ j, j < 2 → EqPv 7 3 5 (3 + j) := by
  repeat' first | exact lt_none | refine lt_split ?_ ?_
  all_goals (intro R ab fn oo fi ps os W K; kernel_rfl)
theorem pv_7_3_2 : ∀ j, j < 3 → EqPv 7 3 6 (3 + j) := by
  repeat' first | exact lt_none | refine lt_split ?_ ?_
  all_goals (intro R ab fn oo fi ps os W K; kernel_rfl)
theorem px_7_3 : ∀ j, j < 4 → EqPx 7 3 (3 + j) := by
  repeat' first | exact lt_none | refine lt_split ?_ ?_
  all_goals (intro R ab fn oo fi ps os W K; kernel_rfl)
theorem row_7_3 : ∀ r, r < 3 → EqRow 7 3 r := by
  repeat' first | exact lt_none | refine lt_split ?_ ?_
  all_goals (intro R ab fn oo fi ps os W x K; kernel_rfl)
theorem rx_7_3 : EqRx 7 3 := by intro R ab fn oo fi ps os W x K; kernel_rfl
theorem mid_7_3 : ∀ j, j < 4 → EqMid 7 3 (3 + j) := by
  repeat' first | exact lt_none | refine lt_split ?_ ?_
  all_goals (intro R ab fn oo fi fi' ps ps' os os' W W' g1 g2 K; kernel_rfl)
theorem pv_7_4_0 : ∀ j, j < 1 → EqPv 7 4 5 (4 + j) := by
  repeat' first | exact lt_none | refine lt_split ?_ ?_
  all_goals (intro R ab fn oo fi ps os W K; kernel_rfl)
theorem pv_7_4_1 : ∀ j, j < 2 → EqPv 7 4 6 (4 + j) := by
  repeat' first | exact lt_none | refine lt_split ?_ ?_
  all_goals (intro R ab fn oo fi ps os W K; kernel_rfl)
theorem px_7_4 : ∀ j, j < 3 → EqPx 7 4 (4 + j) := by
  repeat' first | exact lt_none | refine lt_split ?_ ?_
  all_goals (intro R ab fn oo fi ps os W K; kernel_rfl)
theorem row_7_4 : ∀ r, r < 2 → EqRow 7 4 r := by
  repeat' first | exact lt_none | refine lt_split ?_ ?_
  all_goals (intro R ab fn oo fi ps os W x K; kernel_rfl)
theorem rx_7_4 : EqRx 7 4 := by intro R ab fn oo fi ps os W x K; kernel_rfl
theorem mid_7_4 : ∀ j, j < 3 → EqMid 7 4 (4 + j) := by
  repeat' first | exact lt_none | refine lt_split ?_ ?_
  all_goals (intro R ab fn oo fi fi' ps ps' os os' W W' g1 g2 K; kernel_rfl)
theorem pv_7_5_0 : ∀ j, j < 1 → EqPv 7 5 6 (5 + j) := by
  repeat' first | exact lt_none | refine lt_split ?_ ?_
  all_goals (intro R ab fn oo fi ps os W K; kernel_rfl)
theorem px_7_5 : ∀ j, j < 2 → EqPx 7 5 (5 + j) := by
  repeat' first | exact lt_none | refine lt_split ?_ ?_
  all_goals (intro R ab fn oo fi ps os W K; kernel_rfl)
theorem row_7_5 : ∀ r, r < 1 → EqRow 7 5 r := by
  repeat' first | exact lt_none | refine lt_split ?_ ?_
  all_goals (intro R ab fn oo fi ps os W x K; kernel_rfl)
theorem rx_7_5 : EqRx 7 5 := by intro R ab fn oo fi ps os W x K; kernel_rfl
theorem mid_7_5 : ∀ j, j < 2 → EqMid 7 5 (5 + j) := by
  repeat' first | exact lt_none | refine lt_split ?_ ?_
  all_goals (intro R ab fn oo fi fi' ps ps' os os' W W' g1 g2 K; kernel_rfl)
theorem px_7_6 : ∀ j, j < 1 → EqPx 7 6 (6 + j) := by
  repeat' first | exact lt_none | refine lt_split ?_ ?_
  all_goals (intro R ab fn oo fi ps os W K; kernel_rfl)
theorem rx_7_6 : EqRx 7 6 := by intro R ab fn oo fi ps os W x K; kernel_rfl
theorem mid_7_6 : ∀ j, j < 1 → EqMid 7 6 (6 + j) := by
  repeat' first | exact lt_none | refine lt_split ?_ ?_
  all_goals (intro R ab fn oo fi fi' ps ps' os os' W W' g1 g2 K; kernel_rfl)
theorem ren_7_0 : ∀ j, j < 7 → EqRen 7 0 (0 + j) := by
  repeat' first | exact lt_none | refine lt_split ?_ ?_
  all_goals (intro oo fi ps os W x; exact ⟨by kernel_rfl, by kernel_rfl⟩)
theorem ren_7_1 : ∀ j, j < 6 → EqRen 7 1 (1 + j) := by
  repeat' first | exact lt_none | refine lt_split ?_ ?_
  all_goals (intro oo fi ps os W x; exact ⟨by kernel_rfl, by kernel_rfl⟩)
theorem ren_7_2 : ∀ j, j < 5 → EqRen 7 2 (2 + j) := by
  repeat' first | exact lt_none | refine lt_split ?_ ?_
  all_goals (intro oo fi ps os W x; exact ⟨by kernel_rfl, by kernel_rfl⟩)
theorem ren_7_3 : ∀ j, j < 4 → EqRen 7 3 (3 + j) := by
  repeat' first | exact lt_none | refine lt_split ?_ ?_
  all_goals (intro oo fi ps os W x; exact ⟨by kernel_rfl, by kernel_rfl⟩)
theorem ren_7_4 : ∀ j, j < 3 → EqRen 7 4 (4 + j) := by
  repeat' first | exact lt_none | refine lt_split ?_ ?_
  all_goals (intro oo fi ps os W x; exact ⟨by kernel_rfl, by kernel_rfl⟩)
theorem ren_7_5 : ∀ j, j < 2 → EqRen 7 5 (5 + j) := by
  repeat' first | exact lt_none | refine lt_split ?_ ?_
  all_goals (intro oo fi ps os W x; exact ⟨by kernel_rfl, by kernel_rfl⟩)
theorem ren_7_6 : ∀ j, j < 1 → EqRen 7 6 (6 + j) := by
  repeat' first | exact lt_none | refine lt_split ?_ ?_
  all_goals (intro oo fi ps os W x; exact ⟨by kernel_rfl, by kernel_rfl⟩)
theorem end_7 : EqEnd 7 := by intro R ab fn oo fi ps os W K; kernel_rfl
theorem eqs_7 : Eqs 7 where
  pv := (lt_split (lt_split (lt_split (lt_split (lt_split (lt_split (lt_split lt_none (lt_split (lt_split (lt_split (lt_split (lt_split (lt_split lt_none pv_7_0_0) pv_7_0_1) pv_7_0_2) pv_7_0_3) pv_7_0_4) pv_7_0_5)) (lt_split (lt_split (lt_split (lt_split (lt_split lt_none pv_7_1_0) pv_7_1_1) pv_7_1_2) pv_7_1_3) pv_7_1_4)) (lt_split (lt_split (lt_split (lt_split lt_none pv_7_2_0) pv_7_2_1) pv_7_2_2) pv_7_2_3)) (lt_split (lt_split (lt_split lt_none pv_7_3_0) pv_7_3_1) pv_7_3_2)) (lt_split (lt_split lt_none pv_7_4_0) pv_7_4_1)) (lt_split lt_none pv_7_5_0)) lt_none)
  px := (lt_split (lt_split (lt_split (lt_split (lt_split (lt_split (lt_split lt_none px_7_0) px_7_1) px_7_2) px_7_3) px_7_4) px_7_5) px_7_6)
  row := (lt_split (lt_split (lt_split (lt_split (lt_split (lt_split (lt_split lt_none row_7_0) row_7_1) row_7_2) row_7_3) row_7_4) row_7_5) lt_none)
  rx := (lt_split (lt_split (lt_split (lt_split (lt_split (lt_split (lt_split lt_none rx_7_0) rx_7_1) rx_7_2) rx_7_3) rx_7_4) rx_7_5) rx_7_6)
  mid := (lt_split (lt_split (lt_split (lt_split (lt_split (lt_split (lt_split lt_none mid_7_0) mid_7_1) mid_7_2) mid_7_3) mid_7_4) mid_7_5) mid_7_6)
  ren := (lt_split (lt_split (lt_split (lt_split (lt_split (lt_split (lt_split lt_none ren_7_0) ren_7_1) ren_7_2) ren_7_3) ren_7_4) ren_7_5) ren_7_6)
  fin := end_7
end Go.Vm
namespace Go.Vm
open Go.Proofs
set_option linter.unusedVariables false
set_option maxRecDepth 1000000
/-! ### 8 unknowns: the equations -/
theorem pv_8_0_0 : ∀ j, j < 1 → EqPv 8 0 1 (0 + j) := by
  repeat' first | exact lt_none | refine lt_split ?_ ?_
  all_goals (intro R ab fn oo fi ps os W K; kernel_rfl)
theorem pv_8_0_1 : ∀ j, j < 2 → EqPv 8 0 2 (0 + j) := by
  repeat' first | exact lt_none | refine lt_split ?_ ?_
  all_goals (intro R ab fn oo fi ps os W K; kernel_rfl)
theorem pv_8_0_2 : ∀ j, j < 3 → EqPv 8 0 3 (0 + j) := by
  repeat' first | exact lt_none | refine lt_split ?_ ?_
  all_goals (intro R ab fn oo fi ps os W K; kernel_rfl)
theorem pv_8_0_3 : ∀ j, j < 4 → EqPv 8 0 4 (0 + j) := by
  repeat' first | exact lt_none | refine lt_split ?_ ?_
  all_goals (intro R ab fn oo fi ps os W K; kernel_rfl)
theorem pv_8_0_4 : ∀ j, j < 5 → EqPv 8 0 5 (0 + j) := by
  repeat' first | exact lt_none | refine lt_split ?_ ?_
  all_goals (intro R ab fn oo fi ps os W K; kernel_rfl)
theorem pv_8_0_5 : ∀ j, j < 6 → EqPv 8 0 6 (0 + j) := by
  repeat' first | exact lt_none | refine lt_split ?_ ?_
  all_goals (intro R ab fn oo fi ps os W K; kernel_rfl)
theorem pv_8_0_6 : ∀ j, j < 7 → EqPv 8 0 7 (0 + j) := by
  repeat' first | exact lt_none | refine lt_split ?_ ?_
  all_goals (intro R ab fn oo fi ps os W K; kernel_rfl)
theorem px_8_0 : ∀ j, j < 8 → EqPx 8 0 (0 + j) := by
  repeat' first | exact lt_none | refine lt_split ?_ ?_
  all_goals (intro R ab fn oo fi ps os W K; kernel_rfl)
theorem row_8_0 : ∀ r, r < 7 → EqRow 8 0 r := by
  repeat' first | exact lt_none | refine lt_split ?_ ?_
  all_goals (intro R ab fn oo fi ps os W x K; kernel_rfl)
theorem rx_8_0 : EqRx 8 0 := by intro R ab fn oo fi ps os W x K; kernel_rfl
theorem mid_8_0 : ∀ j, j < 8 → EqMid 8 0 (0 + j) := by
  repeat' first | exact lt_none | refine lt_split ?_ ?_
  all_goals (intro R ab fn oo fi fi' ps ps' os os' W W' g1 g2 K; kernel_rfl)
theorem pv_8_1_0 : ∀ j, j < 1 → EqPv 8 1 2 (1 + j) := by
  repeat' first | exact lt_none | refine lt_split ?_ ?_
  all_goals (intro R ab fn oo fi ps os W K; kernel_rfl)
theorem pv_8_1_1 : ∀ j, j < 2 → EqPv 8 1 3 (1 + j) := by
  repeat' first | exact lt_none | refine lt_split ?_ ?_
  all_goals (intro R ab fn oo fi ps os W K; kernel_rfl)
theorem pv_8_1_2 : ∀ j, j < 3 → EqPv 8 1 4 (1 + j) := by
  repeat' first | exact lt_none | refine lt_split ?_ ?_
  all_goals (intro R ab fn oo fi ps os W K; kernel_rfl)
theorem pv_8_1_3 : ∀ j, j < 4 → EqPv 8 1 5 (1 + j) := by
  repeat' first | exact lt_none | refine lt_split ?_ ?_
  all_goals (intro R ab fn oo fi ps os W K; kernel_rfl)
theorem pv_8_1_4 : ∀ j, j < 5 → EqPv 8 1 6 (1 + j) := by
  repeat' first | exact lt_none | refine lt_split ?_ ?_
  all_goals (intro R ab fn oo fi ps os W K; kernel_rfl)
theorem pv_8_1_5 : ∀ j, j < 6 → EqPv 8 1 7 (1 + j) := by
  repeat' first | exact lt_none | refine lt_split ?_ ?_
  all_goals (intro R ab fn oo fi ps os W K; kernel_rfl)
theorem px_8_1 : ∀ j, j < 7 → EqPx 8 1 (1 + j) := by
  repeat' first | exact lt_none | refine lt_split ?_ ?_
  all_goals (intro R ab fn oo fi ps os W K; kernel_rfl)
theorem row_8_1 : ∀ r, r < 6 → EqRow 8 1 r := by
  repeat' first | exact lt_none | refine lt_split ?_ ?_
  all_goals (intro R ab fn oo fi ps os W x K; kernel_rfl)
theorem rx_8_1 : EqRx 8 1 := by intro R ab fn oo fi ps os W x K; kernel_rfl
theorem mid_8_1 : ∀ j, j < 7 → EqMid 8 1 (1 + j) := by
  repeat' first | exact lt_none | refine lt_split ?_ ?_
  all_goals (intro R ab fn oo fi fi' ps ps' os os' W W' g1 g2 K; kernel_rfl)
theorem pv_8_2_0 : ∀ j, j < 1 → EqPv 8 2 3 (2 + j) := by
  repeat' first | exact lt_none | refine lt_split ?_ ?_
  all_goals (intro R ab fn oo fi ps os W K; kernel_rfl)
theorem pv_8_2_1 : ∀ j, j < 2 → EqPv 8 2 4 (2 + j) := by
  repeat' first | exact lt_none | refine lt_split ?_ ?_
  all_goals (intro R ab fn oo fi ps os W K; kernel_rfl)
theorem pv_8_2_2 : ∀ j, j < 3 → EqPv 8 2 5 (2 + j) := by
  repeat' first | exact lt_none | refine lt_split ?_ ?_
  all_goals (intro R ab fn oo fi ps os W K; kernel_rfl)
theorem pv_8_2_3 : ∀ j, j < 4 → EqPv 8 2 6 (2 + j) := by
  repeat' first | exact lt_none | refine lt_split ?_ ?_
  all_goals (intro R ab fn oo fi ps os W K; kernel_rfl)
theorem pv_8_2_4 : ∀ j, j < 5 → EqPv 8 2 7 (2 + j) := by
  repeat' first | exact lt_none | refine lt_split ?_ ?_
  all_goals (intro R ab fn oo fi ps os W K; kernel_rfl)
theorem px_8_2 : ∀ j, j < 6 → EqPx 8 2 (2 + j) := by
  repeat' first | exact lt_none | refine lt_split ?_ ?_
  all_goals (intro R ab fn oo fi ps os W K; kernel_rfl)
theorem row_8_2 : ∀ r, r < 5 → EqRow 8 2 r := by
  repeat' first | exact lt_none | refine lt_split ?_ ?_
  all_goals (intro R ab fn oo fi ps os W x K; kernel_rfl)
theorem rx_8_2 : EqRx 8 2 := by intro R ab fn oo fi ps os W x K; kernel_rfl
theorem mid_8_2 : ∀ j, j < 6 → EqMid 8 2 (2 + j) := by
  repeat' first | exact lt_none | refine lt_split ?_ ?_
  all_goals (intro R ab fn oo fi fi' ps ps' os os' W W' g1 g2 K; kernel_rfl)
theorem pv_8_3_0 : ∀ j, j < 1 → EqPv 8 3 4 (3 + j) := by
  repeat' first | exact lt_none | refine lt_split ?_ ?_
  all_goals (intro R ab fn oo fi ps os W K; kernel_rfl)
theorem pv_8_3_1 : ∀ j, j < 2 → EqPv 8 3 5 (3 + j) := by
  repeat' first | exact lt_none | refine lt_split ?_ ?_
  all_goals (intro R ab fn oo fi ps os W K; kernel_rfl)
theorem pv_8_3_2 : ∀ j, j < 3 → EqPv 8 3 6 (3 + j) := by
  repeat' first | exact lt_none | refine lt_split ?_ ?_
  all_goals (intro R ab fn oo fi ps os W K; kernel_rfl)
theorem pv_8_3_3 : ∀ j, j < 4 → EqPv 8 3 7 (3 + j) := by
  repeat' first | exact lt_none | refine lt_split ?_ ?_
  all_goals (intro R ab fn oo fi ps os W K; kernel_rfl)
theorem px_8_3 : ∀ j, j < 5 → EqPx 8 3 (3 + j) := by
  repeat' first | exact lt_none | refine lt_split ?_ ?_
  all_goals (intro R ab fn oo fi ps os W K; kernel_rfl)
theorem row_8_3 : ∀ r, r < 4 → EqRow 8 3 r := by
  repeat' first | exact lt_none | refine lt_split ?_ ?_
  all_goals (intro R ab fn oo fi ps os W x K; kernel_rfl)
theorem rx_8_3 : EqRx 8 3 := by intro R ab fn oo fi ps os W x K; kernel_rfl
theorem mid_8_3 : ∀ j, j < 5 → EqMid 8 3 (3 + j) := by
  repeat' first | exact lt_none | refine lt_split ?_ ?_
  all_goals (intro R ab fn oo fi fi' ps ps' os os' W W' g1 g2 K; kernel_rfl)
theorem pv_8_4_0 : ∀ j, j < 1 → EqPv 8 4 5 (4 + j) := by
  repeat' first | exact lt_none | refine lt_split ?_ ?_
  all_goals (intro R ab fn oo fi ps os W K; kernel_rfl)
theorem pv_8_4_1 : ∀ j, j < 2 → EqPv 8 4 6 (4 + j) := by
  repeat' first | exact lt_none | refine lt_split ?_ ?_
  all_goals (intro R ab fn oo fi ps os W K; kernel_rfl)
theorem pv_8_4_2 : ∀ j, j < 3 → EqPv 8 4 7 (4 + j) := by
  repeat' first | exact lt_none | refine lt_split ?_ ?_
  all_goals (intro R ab fn oo fi ps os W K; kernel_rfl)
theorem px_8_4 : ∀ j, j < 4 → EqPx 8 4 (4 + j) := by
  repeat' first | exact lt_none | refine lt_split ?_ ?_
  all_goals (intro R ab fn oo fi ps os W K; kernel_rfl)
theorem row_8_4 : ∀ r, r < 3 → EqRow 8 4 r := by
  repeat' first | exact lt_none | refine lt_split ?_ ?_
  all_goals (intro R ab fn oo fi ps os W x K; kernel_rfl)
theorem rx_8_4 : EqRx 8 4 := by intro R ab fn oo fi ps os W x K; kernel_rfl
theorem mid_8_4 : ∀ j, j < 4 → EqMid 8 4 (4 + j) := by
  repeat' first | exact lt_none | refine lt_split ?_ ?_
  all_goals (intro R ab fn oo fi fi' ps ps' os os' W W' g1 g2 K; kernel_rfl)
theorem pv_8_5_0 : ∀ j, j < 1 → EqPv 8 5 6 (5 + j) := by
  repeat' first | exact lt_none | refine lt_split ?_ ?_
  all_goals (intro R ab fn oo fi ps os W K; kernel_rfl)
theorem pv_8_5_1 : ∀ j, j < 2 → EqPv 8 5 7 (5 + j) := by
  repeat' first | exact lt_none | refine lt_split ?_ ?_
  all_goals (intro R ab fn oo fi ps os W K; kernel_rfl)
theorem px_8_5 : ∀ j, j < 3 → EqPx 8 5 (5 + j) := by
  repeat' first | exact lt_none | refine lt_split ?_ ?_
  all_goals (intro R ab fn oo fi ps os W K; kernel_rfl)
theorem row_8_5 : ∀ r, r < 2 → EqRow 8 5 r := by
  repeat' first | exact lt_none | refine lt_split ?_ ?_
  all_goals (intro R ab fn oo fi ps os W x K; kernel_rfl)
theorem rx_8_5 : EqRx 8 5 := by intro R ab fn oo fi ps os W x K; kernel_rfl
theorem mid_8_5 : ∀ j, j < 3 → EqMid 8 5 (5 + j) := by
  repeat' first | exact lt_none | refine lt_split ?_ ?_
  all_goals (intro R ab fn oo fi fi' ps ps' os os' W W' g1 g2 K; kernel_rfl)
theorem pv_8_6_0 : ∀ j, j < 1 → EqPv 8 6 7 (6 + j) := by
  repeat' first | exact lt_none | refine lt_split ?_ ?_
  all_goals (intro R ab fn oo fi ps os W K; kernel_rfl)
theorem px_8_6 : ∀ j, j < 2 → EqPx 8 6 (6 + j) := by
  repeat' first | exact lt_none | refine lt_split ?_ ?_
  all_goals (intro R ab fn oo fi ps os W K; kernel_rfl)
theorem row_8_6 : ∀ r, r < 1 → EqRow 8 6 r := by
  repeat' first | exact lt_none | refine lt_split ?_ ?_
  all_goals (intro R ab fn oo fi ps os W x K; kernel_rfl)
theorem rx_8_6 : EqRx 8 6 := by intro R ab fn oo fi ps os W x K; kernel_rfl
theorem mid_8_6 : ∀ j, j < 2 → EqMid 8 6 (6 + j) := by
  repeat' first | exact lt_none | refine lt_split ?_ ?_
  all_goals (intro R ab fn oo fi fi' ps ps' os os' W W' g1 g2 K; kernel_rfl)
theorem px_8_7 : ∀ j, j < 1 → EqPx 8 7 (7 + j) := by
  repeat' first | exact lt_none | refine lt_split ?_ ?_
  all_goals (intro R ab fn oo fi ps os W K; kernel_rfl)
theorem rx_8_7 : EqRx 8 7 := by intro R ab fn oo fi ps os W x K; kernel_rfl
theorem mid_8_7 : ∀ j, j < 1 → EqMid 8 7 (7 + j) := by
  repeat' first | exact lt_none | refine lt_split ?_ ?_
  all_goals (intro R ab fn oo fi fi' ps ps' os os' W W' g1 g2 K; kernel_rfl)
theorem ren_8_0 : ∀ j, j < 8 → EqRen 8 0 (0 + j) := by
  repeat' first | exact lt_none | refine lt_split ?_ ?_
  all_goals (intro oo fi ps os W x; exact ⟨by kernel_rfl, by kernel_rfl⟩)
theorem ren_8_1 : ∀ j, j < 7 → EqRen 8 1 (1 + j) := by
  repeat' first | exact lt_none | refine lt_split ?_ ?_
  all_goals (intro oo fi ps os W x; exact ⟨by kernel_rfl, by kernel_rfl⟩)
theorem ren_8_2 : ∀ j, j < 6 → EqRen 8 2 (2 + j) := by
  repeat' first | exact lt_none | refine lt_split ?_ ?_
  all_goals (intro oo fi ps os W x; exact ⟨by kernel_rfl, by kernel_rfl⟩)
theorem ren_8_3 : ∀ j, j < 5 → EqRen 8 3 (3 + j) := by
  repeat' first | exact lt_none | refine lt_split ?_ ?_
  all_goals (intro oo fi ps os W x; exact ⟨by kernel_rfl, by kernel_rfl⟩)
theorem ren_8_4 : ∀ j, j < 4 → EqRen 8 4 (4 + j) := by
  repeat' first | exact lt_none | refine lt_split ?_ ?_
  all_goals (intro oo fi ps os W x; exact ⟨by kernel_rfl, by kernel_rfl⟩)
theorem ren_8_5 : ∀ j, j < 3 → EqRen 8 5 (5 + j) := by
  repeat' first | exact lt_none | refine lt_split ?_ ?_
  all_goals (intro oo fi ps os W x; exact ⟨by kernel_rfl, by kernel_rfl⟩)
theorem ren_8_6 : ∀ j, j < 2 → EqRen 8 6 (6 + j) := by
  repeat' first | exact lt_none | refine lt_split ?_ ?_
  all_goals (intro oo fi ps os W x; exact ⟨by kernel_rfl, by kernel_rfl⟩)
theorem ren_8_7 : ∀ j, j < 1 → EqRen 8 7 (7 + j) := by
  repeat' first | exact lt_none | refine lt_split ?_ ?_
  all_goals (intro oo fi ps os W x; exact ⟨by kernel_rfl, by kernel_rfl⟩)
theorem end_8 : EqEnd 8 := by intro R ab fn oo fi ps os W K; kernel_rfl
theorem eqs_8 : Eqs 8 where
  pv := (lt_split (lt_split (lt_split (lt_split (lt_split (lt_split (lt_split (lt_split lt_none (lt_split (lt_split (lt_split (lt_split (lt_split (lt_split (lt_split lt_none pv_8_0_0) pv_8_0_1) pv_8_0_2) pv_8_0_3) pv_8_0_4) pv_8_0_5) pv_8_0_6)) (lt_split (lt_split (lt_split (lt_split (lt_split (lt_split lt_none pv_8_1_0) pv_8_1_1) pv_8_1_2) pv_8_1_3) pv_8_1_4) pv_8_1_5)) (lt_split (lt_split (lt_split (lt_split (lt_split lt_none pv_8_2_0) pv_8_2_1) pv_8_2_2) pv_8_2_3) pv_8_2_4)) (lt_split (lt_split (lt_split (lt_split lt_none pv_8_3_0) pv_8_3_1) pv_8_3_2) pv_8_3_3)) (lt_split (lt_split (lt_split lt_none pv_8_4_0) pv_8_4_1) pv_8_4_2)) (lt_split (lt_split lt_none pv_8_5_0) pv_8_5_1)) (lt_split lt_none pv_8_6_0)) lt_none)
  px := (lt_split (lt_split (lt_split (lt_split (lt_split (lt_split (lt_split (lt_split lt_none px_8_0) px_8_1) px_8_2) px_8_3) px_8_4) px_8_5) px_8_6) px_8_7)
  row := (lt_split (lt_split (lt_split (lt_split (lt_split (lt_split (lt_split (lt_split lt_none row_8_0) row_8_1) row_8_2) row_8_3) row_8_4) row_8_5) row_8_6) lt_none)
  rx := (lt_split (lt_split (lt_split (lt_split (lt_split (lt_split (lt_split (lt_split lt_none rx_8_0) rx_8_1) rx_8_2) rx_8_3) rx_8_4) rx_8_5) rx_8_6) rx_8_7)
  mid := (lt_split (lt_split (lt_split (lt_split (lt_split (lt_split (lt_split (lt_split lt_none mid_8_0) mid_8_1) mid_8_2) mid_8_3) mid_8_4) mid_8_5) mid_8_6) mid_8_7)
  ren := (lt_split (lt_split (lt_split (lt_split (lt_split (lt_split (lt_split (lt_split lt_none ren_8_0) ren_8_1) ren_8_2) ren_8_3) ren_8_4) ren_8_5) ren_8_6) ren_8_7)
  fin := end_8
end Go.Vm
