/-
  No cell of these rows narrows 'for every input' (looked for: loops, veiled, ifaces, maps, wideKeys, modest, calm, conditions, laid).
  DERIVED. THE GIVEN ROWS OF THIS SEAT. 11 by the template 'for every input the law returns true; each argument reads behind the call as it read before'; 0 by the template 'total and deterministic' (their statements: YtnbpfafngidimaaGreatTotals.lean).
  GIVEN WITH THE SEED: the statements are not yours to turn. If you find one false, say at which input.
  Laid BY PROGRAM, IN A SANDBOX (cutbox-rows.mjs): the forced cells as the released guide's own fill.sh prints them over the translation 030a8799a0311a2f… (all of the seat's roots in one cut). By AI agents, Wed Nov 11 2026. No macro, syntax, notation, axiom, sorry.
-/
import Derived.Test.YtnbpfafngidimaaGreatChecked
import GoSem.Claim
import GoSem.ClaimJoined
import GoSem.ClaimMapViews
import Derived.JoinedTies
import Derived.KernelRfl
namespace Go.Proofs.YtnbpfafngidimaaGreat
/- THE CELL 'sum', in the pinned program and in every row, IS THE sha256 OF THE DUMP (.gsa) THAT YtnbpfafngidimaaGreatProg.lean LOADS. Nothing in Lean hashes anything: it is a label: what it is worth is what the hold of that sum in a sandbox is worth. -/
noncomputable def Tryz.pinned : Pinned := { name := "ytnbpfafngidimaagreat", sum := "030a8799a0311a2f265cdc856e63cec652faf42d7bc9b4ad8080ffb0fa7289c7", checked := Tryz.checked }
namespace Rows
def none {H : Type} : Left H := { results := [], args := [] }

/-- 'eddylaw18.ChartGroup': WHATEVER THE INPUT: true; the input reads as it did. -/
def chartGroupSpec : ChangeSpec := { name := "chartGroup", fn := fun _ => fun
  | [d1, d2, d3] => { results := [.lit (.bool true)], args := [d1, d2, d3] }
  | _ => none }
def chartGroupRow : OpenClaim := { program := "ytnbpfafngidimaagreat", sum := "030a8799a0311a2f265cdc856e63cec652faf42d7bc9b4ad8080ffb0fa7289c7", func := "eddy/eddylaw18.ChartGroup", spec := "chartGroup", inPlace := ["math.Float64bits", "math.Float64frombits", "math.archFloor", "math.archTrunc", "math.sqrt", "math.RoundToEven"], unfollowed := true, recurses := true, apart := false }
def ChartGroupSaid : Prop := chartGroupRow.holds Tryz.pinned (OpenSpec.ofChange chartGroupSpec)

/-- ITS FALSE NEIGHBOUR: 'it returns false'. Refute it at one input. -/
def chartGroupWrong : ChangeSpec := { name := "chartGroup", fn := fun _ => fun
  | [d1, d2, d3] => { results := [.lit (.bool false)], args := [d1, d2, d3] }
  | _ => none }
def ChartGroupWrongFalsely : Prop := chartGroupRow.holds Tryz.pinned (OpenSpec.ofChange chartGroupWrong)

/-- 'eddylaw18.ChartThere': WHATEVER THE INPUT: true; the input reads as it did. -/
def chartThereSpec : ChangeSpec := { name := "chartThere", fn := fun _ => fun
  | [d1, d2, d3] => { results := [.lit (.bool true)], args := [d1, d2, d3] }
  | _ => none }
def chartThereRow : OpenClaim := { program := "ytnbpfafngidimaagreat", sum := "030a8799a0311a2f265cdc856e63cec652faf42d7bc9b4ad8080ffb0fa7289c7", func := "eddy/eddylaw18.ChartThere", spec := "chartThere", inPlace := ["math.Float64bits", "math.Float64frombits", "math.archFloor", "math.archTrunc", "math.sqrt", "math.RoundToEven"], unfollowed := true, recurses := true, apart := false }
def ChartThereSaid : Prop := chartThereRow.holds Tryz.pinned (OpenSpec.ofChange chartThereSpec)

/-- ITS FALSE NEIGHBOUR: 'it returns false'. Refute it at one input. -/
def chartThereWrong : ChangeSpec := { name := "chartThere", fn := fun _ => fun
  | [d1, d2, d3] => { results := [.lit (.bool false)], args := [d1, d2, d3] }
  | _ => none }
def ChartThereWrongFalsely : Prop := chartThereRow.holds Tryz.pinned (OpenSpec.ofChange chartThereWrong)

/-- 'eddylaw18.ChartThree': WHATEVER THE INPUT: true; the input reads as it did. -/
def chartThreeSpec : ChangeSpec := { name := "chartThree", fn := fun _ => fun
  | [d1, d2] => { results := [.lit (.bool true)], args := [d1, d2] }
  | _ => none }
def chartThreeRow : OpenClaim := { program := "ytnbpfafngidimaagreat", sum := "030a8799a0311a2f265cdc856e63cec652faf42d7bc9b4ad8080ffb0fa7289c7", func := "eddy/eddylaw18.ChartThree", spec := "chartThree", inPlace := ["math.Float64bits", "math.Float64frombits", "math.archFloor", "math.archTrunc", "math.sqrt", "math.RoundToEven"], unfollowed := true, recurses := true, apart := false }
def ChartThreeSaid : Prop := chartThreeRow.holds Tryz.pinned (OpenSpec.ofChange chartThreeSpec)

/-- ITS FALSE NEIGHBOUR: 'it returns false'. Refute it at one input. -/
def chartThreeWrong : ChangeSpec := { name := "chartThree", fn := fun _ => fun
  | [d1, d2] => { results := [.lit (.bool false)], args := [d1, d2] }
  | _ => none }
def ChartThreeWrongFalsely : Prop := chartThreeRow.holds Tryz.pinned (OpenSpec.ofChange chartThreeWrong)

/-- 'eddylaw21.RingApart': WHATEVER THE INPUT: true; the input reads as it did. -/
def ringApartSpec : ChangeSpec := { name := "ringApart", fn := fun _ => fun
  | [d1, d2, d3] => { results := [.lit (.bool true)], args := [d1, d2, d3] }
  | _ => none }
def ringApartRow : OpenClaim := { program := "ytnbpfafngidimaagreat", sum := "030a8799a0311a2f265cdc856e63cec652faf42d7bc9b4ad8080ffb0fa7289c7", func := "eddy/eddylaw21.RingApart", spec := "ringApart", inPlace := ["math.Float64bits", "math.Float64frombits", "math.archTrunc", "math.sqrt", "math.RoundToEven"], unfollowed := true, recurses := true, apart := false }
def RingApartSaid : Prop := ringApartRow.holds Tryz.pinned (OpenSpec.ofChange ringApartSpec)

/-- ITS FALSE NEIGHBOUR: 'it returns false'. Refute it at one input. -/
def ringApartWrong : ChangeSpec := { name := "ringApart", fn := fun _ => fun
  | [d1, d2, d3] => { results := [.lit (.bool false)], args := [d1, d2, d3] }
  | _ => none }
def RingApartWrongFalsely : Prop := ringApartRow.holds Tryz.pinned (OpenSpec.ofChange ringApartWrong)

/-- 'eddylaw17.ImageNames': WHATEVER THE INPUT: true; the input reads as it did. -/
def imageNamesSpec : ChangeSpec := { name := "imageNames", fn := fun _ => fun
  | [] => { results := [.lit (.bool true)], args := [] }
  | _ => none }
def imageNamesRow : OpenClaim := { program := "ytnbpfafngidimaagreat", sum := "030a8799a0311a2f265cdc856e63cec652faf42d7bc9b4ad8080ffb0fa7289c7", func := "eddy/eddylaw17.ImageNames", spec := "imageNames", inPlace := ["math.Float64bits", "math.Float64frombits", "math.archTrunc", "math.sqrt", "math.archMax"], unfollowed := true, recurses := true, apart := false }
def ImageNamesSaid : Prop := imageNamesRow.holds Tryz.pinned (OpenSpec.ofChange imageNamesSpec)

/-- ITS FALSE NEIGHBOUR: 'it returns false'. Refute it at one input. -/
def imageNamesWrong : ChangeSpec := { name := "imageNames", fn := fun _ => fun
  | [] => { results := [.lit (.bool false)], args := [] }
  | _ => none }
def ImageNamesWrongFalsely : Prop := imageNamesRow.holds Tryz.pinned (OpenSpec.ofChange imageNamesWrong)

/-- 'eddylaw25.PanelThrough': WHATEVER THE INPUT: true; the input reads as it did. -/
def panelThroughSpec : ChangeSpec := { name := "panelThrough", fn := fun _ => fun
  | [d1, d2] => { results := [.lit (.bool true)], args := [d1, d2] }
  | _ => none }
def panelThroughRow : OpenClaim := { program := "ytnbpfafngidimaagreat", sum := "030a8799a0311a2f265cdc856e63cec652faf42d7bc9b4ad8080ffb0fa7289c7", func := "eddy/eddylaw25.PanelThrough", spec := "panelThrough", inPlace := ["math.Float64bits", "math.Float64frombits", "math.sqrt", "math.archTrunc", "math.archMax"], unfollowed := true, recurses := true, apart := false }
def PanelThroughSaid : Prop := panelThroughRow.holds Tryz.pinned (OpenSpec.ofChange panelThroughSpec)

/-- ITS FALSE NEIGHBOUR: 'it returns false'. Refute it at one input. -/
def panelThroughWrong : ChangeSpec := { name := "panelThrough", fn := fun _ => fun
  | [d1, d2] => { results := [.lit (.bool false)], args := [d1, d2] }
  | _ => none }
def PanelThroughWrongFalsely : Prop := panelThroughRow.holds Tryz.pinned (OpenSpec.ofChange panelThroughWrong)

/-- 'eddylaw25.PanelNames': WHATEVER THE INPUT: true; the input reads as it did. -/
def panelNamesSpec : ChangeSpec := { name := "panelNames", fn := fun _ => fun
  | [] => { results := [.lit (.bool true)], args := [] }
  | _ => none }
def panelNamesRow : OpenClaim := { program := "ytnbpfafngidimaagreat", sum := "030a8799a0311a2f265cdc856e63cec652faf42d7bc9b4ad8080ffb0fa7289c7", func := "eddy/eddylaw25.PanelNames", spec := "panelNames", inPlace := ["math.Float64bits", "math.Float64frombits", "math.sqrt", "math.archTrunc", "math.archMax"], unfollowed := true, recurses := true, apart := false }
def PanelNamesSaid : Prop := panelNamesRow.holds Tryz.pinned (OpenSpec.ofChange panelNamesSpec)

/-- ITS FALSE NEIGHBOUR: 'it returns false'. Refute it at one input. -/
def panelNamesWrong : ChangeSpec := { name := "panelNames", fn := fun _ => fun
  | [] => { results := [.lit (.bool false)], args := [] }
  | _ => none }
def PanelNamesWrongFalsely : Prop := panelNamesRow.holds Tryz.pinned (OpenSpec.ofChange panelNamesWrong)

/-- 'eddylaw25.PanelHalves': WHATEVER THE INPUT: true; the input reads as it did. -/
def panelHalvesSpec : ChangeSpec := { name := "panelHalves", fn := fun _ => fun
  | [d1, d2, d3, d4, d5, d6] => { results := [.lit (.bool true)], args := [d1, d2, d3, d4, d5, d6] }
  | _ => none }
def panelHalvesRow : OpenClaim := { program := "ytnbpfafngidimaagreat", sum := "030a8799a0311a2f265cdc856e63cec652faf42d7bc9b4ad8080ffb0fa7289c7", func := "eddy/eddylaw25.PanelHalves", spec := "panelHalves", inPlace := ["math.Float64bits", "math.Float64frombits", "math.sqrt", "math.archTrunc", "math.archMax", "math.archHypot"], unfollowed := true, recurses := true, apart := false }
def PanelHalvesSaid : Prop := panelHalvesRow.holds Tryz.pinned (OpenSpec.ofChange panelHalvesSpec)

/-- ITS FALSE NEIGHBOUR: 'it returns false'. Refute it at one input. -/
def panelHalvesWrong : ChangeSpec := { name := "panelHalves", fn := fun _ => fun
  | [d1, d2, d3, d4, d5, d6] => { results := [.lit (.bool false)], args := [d1, d2, d3, d4, d5, d6] }
  | _ => none }
def PanelHalvesWrongFalsely : Prop := panelHalvesRow.holds Tryz.pinned (OpenSpec.ofChange panelHalvesWrong)

/-- 'eddylaw22.ForceNames': WHATEVER THE INPUT: true; the input reads as it did. -/
def forceNamesSpec : ChangeSpec := { name := "forceNames", fn := fun _ => fun
  | [] => { results := [.lit (.bool true)], args := [] }
  | _ => none }
def forceNamesRow : OpenClaim := { program := "ytnbpfafngidimaagreat", sum := "030a8799a0311a2f265cdc856e63cec652faf42d7bc9b4ad8080ffb0fa7289c7", func := "eddy/eddylaw22.ForceNames", spec := "forceNames", inPlace := ["math.Float64frombits", "math.Float64bits", "math.archTrunc", "math.sqrt", "math.RoundToEven"], unfollowed := true, recurses := true, apart := false }
def ForceNamesSaid : Prop := forceNamesRow.holds Tryz.pinned (OpenSpec.ofChange forceNamesSpec)

/-- ITS FALSE NEIGHBOUR: 'it returns false'. Refute it at one input. -/
def forceNamesWrong : ChangeSpec := { name := "forceNames", fn := fun _ => fun
  | [] => { results := [.lit (.bool false)], args := [] }
  | _ => none }
def ForceNamesWrongFalsely : Prop := forceNamesRow.holds Tryz.pinned (OpenSpec.ofChange forceNamesWrong)

/-- 'eddylaw22.ForceLift': WHATEVER THE INPUT: true; the input reads as it did. -/
def forceLiftSpec : ChangeSpec := { name := "forceLift", fn := fun _ => fun
  | [d1, d2, d3, d4, d5, d6] => { results := [.lit (.bool true)], args := [d1, d2, d3, d4, d5, d6] }
  | _ => none }
def forceLiftRow : OpenClaim := { program := "ytnbpfafngidimaagreat", sum := "030a8799a0311a2f265cdc856e63cec652faf42d7bc9b4ad8080ffb0fa7289c7", func := "eddy/eddylaw22.ForceLift", spec := "forceLift", inPlace := ["math.Float64frombits", "math.Float64bits", "math.archTrunc", "math.sqrt", "math.RoundToEven"], unfollowed := true, recurses := true, apart := false }
def ForceLiftSaid : Prop := forceLiftRow.holds Tryz.pinned (OpenSpec.ofChange forceLiftSpec)

/-- ITS FALSE NEIGHBOUR: 'it returns false'. Refute it at one input. -/
def forceLiftWrong : ChangeSpec := { name := "forceLift", fn := fun _ => fun
  | [d1, d2, d3, d4, d5, d6] => { results := [.lit (.bool false)], args := [d1, d2, d3, d4, d5, d6] }
  | _ => none }
def ForceLiftWrongFalsely : Prop := forceLiftRow.holds Tryz.pinned (OpenSpec.ofChange forceLiftWrong)

/-- 'eddylaw20.FoilNames': WHATEVER THE INPUT: true; the input reads as it did. -/
def foilNamesSpec : ChangeSpec := { name := "foilNames", fn := fun _ => fun
  | [] => { results := [.lit (.bool true)], args := [] }
  | _ => none }
def foilNamesRow : OpenClaim := { program := "ytnbpfafngidimaagreat", sum := "030a8799a0311a2f265cdc856e63cec652faf42d7bc9b4ad8080ffb0fa7289c7", func := "eddy/eddylaw20.FoilNames", spec := "foilNames", inPlace := ["math.Float64bits", "math.Float64frombits", "math.sqrt", "math.RoundToEven", "math.archTrunc", "math.archFloor"], unfollowed := true, recurses := true, apart := false }
def FoilNamesSaid : Prop := foilNamesRow.holds Tryz.pinned (OpenSpec.ofChange foilNamesSpec)

/-- ITS FALSE NEIGHBOUR: 'it returns false'. Refute it at one input. -/
def foilNamesWrong : ChangeSpec := { name := "foilNames", fn := fun _ => fun
  | [] => { results := [.lit (.bool false)], args := [] }
  | _ => none }
def FoilNamesWrongFalsely : Prop := foilNamesRow.holds Tryz.pinned (OpenSpec.ofChange foilNamesWrong)

/- THE SECOND FORM. 'bulk': how many values and letters a reading holds, each counted each time it is reached (what is shared counts as often as it is met; a slice's spare places count too). A statement '..UptoSaid' is the law's where the arguments, and the package variables that the reading takes, are together of bulk at most 1048576: NARROWER than '..Said'. Prove '..Said' where nothing that the law and all that it calls make is longer than what came in: it says more and counts as full. Else prove '..UptoSaid'. A law counts once. -/
mutual
def uptoBulk {H : Type} : DataW H → Nat
  | .lit (.string bytes) => bytes.length + 1
  | .lit _ => 1
  | .nil => 1
  | .ptr d => uptoBulk d + 1
  | .slice elems spare => uptoBulkAll elems + uptoBulkAll spare + 1
  | .agg parts => uptoBulkAll parts + 1
  | .iface _ d => uptoBulk d + 1
  | .map entries => uptoBulkEntries entries + 1
  | .held _ => 1
def uptoBulkAll {H : Type} : List (DataW H) → Nat
  | [] => 0
  | d :: r => uptoBulk d + uptoBulkAll r
def uptoBulkEntries {H : Type} : List (Lit × DataW H) → Nat
  | [] => 0
  | x :: r => uptoBulkEntry x + uptoBulkEntries r
def uptoBulkEntry {H : Type} : Lit × DataW H → Nat
  | (.string bytes, d) => bytes.length + uptoBulk d + 1
  | (_, d) => uptoBulk d + 1
 end
def uptoSmall : (H : Type) → List (DataW H) → Bool := fun _ ds => decide (uptoBulkAll ds ≤ 1048576)
def OpenSpec.upto (s : _root_.Go.ChangeSpec) : _root_.Go.OpenSpec := { _root_.Go.OpenSpec.ofChange s with cond := some uptoSmall }

/-- 'eddylaw18.ChartGroup', WHERE WHAT IT READS IS OF BULK AT MOST 1048576: true; the input reads as it did. -/
def chartGroupUptoRow : OpenClaim := { program := "ytnbpfafngidimaagreat", sum := "030a8799a0311a2f265cdc856e63cec652faf42d7bc9b4ad8080ffb0fa7289c7", func := "eddy/eddylaw18.ChartGroup", spec := "chartGroup", inPlace := ["math.Float64bits", "math.Float64frombits", "math.archFloor", "math.archTrunc", "math.sqrt", "math.RoundToEven"], unfollowed := true, recurses := true, apart := false, narrowed := true }
def ChartGroupUptoSaid : Prop := chartGroupUptoRow.holds Tryz.pinned (OpenSpec.upto chartGroupSpec)

/-- 'eddylaw18.ChartThere', WHERE WHAT IT READS IS OF BULK AT MOST 1048576: true; the input reads as it did. -/
def chartThereUptoRow : OpenClaim := { program := "ytnbpfafngidimaagreat", sum := "030a8799a0311a2f265cdc856e63cec652faf42d7bc9b4ad8080ffb0fa7289c7", func := "eddy/eddylaw18.ChartThere", spec := "chartThere", inPlace := ["math.Float64bits", "math.Float64frombits", "math.archFloor", "math.archTrunc", "math.sqrt", "math.RoundToEven"], unfollowed := true, recurses := true, apart := false, narrowed := true }
def ChartThereUptoSaid : Prop := chartThereUptoRow.holds Tryz.pinned (OpenSpec.upto chartThereSpec)

/-- 'eddylaw18.ChartThree', WHERE WHAT IT READS IS OF BULK AT MOST 1048576: true; the input reads as it did. -/
def chartThreeUptoRow : OpenClaim := { program := "ytnbpfafngidimaagreat", sum := "030a8799a0311a2f265cdc856e63cec652faf42d7bc9b4ad8080ffb0fa7289c7", func := "eddy/eddylaw18.ChartThree", spec := "chartThree", inPlace := ["math.Float64bits", "math.Float64frombits", "math.archFloor", "math.archTrunc", "math.sqrt", "math.RoundToEven"], unfollowed := true, recurses := true, apart := false, narrowed := true }
def ChartThreeUptoSaid : Prop := chartThreeUptoRow.holds Tryz.pinned (OpenSpec.upto chartThreeSpec)

/-- 'eddylaw21.RingApart', WHERE WHAT IT READS IS OF BULK AT MOST 1048576: true; the input reads as it did. -/
def ringApartUptoRow : OpenClaim := { program := "ytnbpfafngidimaagreat", sum := "030a8799a0311a2f265cdc856e63cec652faf42d7bc9b4ad8080ffb0fa7289c7", func := "eddy/eddylaw21.RingApart", spec := "ringApart", inPlace := ["math.Float64bits", "math.Float64frombits", "math.archTrunc", "math.sqrt", "math.RoundToEven"], unfollowed := true, recurses := true, apart := false, narrowed := true }
def RingApartUptoSaid : Prop := ringApartUptoRow.holds Tryz.pinned (OpenSpec.upto ringApartSpec)

/-- 'eddylaw17.ImageNames', WHERE WHAT IT READS IS OF BULK AT MOST 1048576: true; the input reads as it did. -/
def imageNamesUptoRow : OpenClaim := { program := "ytnbpfafngidimaagreat", sum := "030a8799a0311a2f265cdc856e63cec652faf42d7bc9b4ad8080ffb0fa7289c7", func := "eddy/eddylaw17.ImageNames", spec := "imageNames", inPlace := ["math.Float64bits", "math.Float64frombits", "math.archTrunc", "math.sqrt", "math.archMax"], unfollowed := true, recurses := true, apart := false, narrowed := true }
def ImageNamesUptoSaid : Prop := imageNamesUptoRow.holds Tryz.pinned (OpenSpec.upto imageNamesSpec)

/-- 'eddylaw25.PanelThrough', WHERE WHAT IT READS IS OF BULK AT MOST 1048576: true; the input reads as it did. -/
def panelThroughUptoRow : OpenClaim := { program := "ytnbpfafngidimaagreat", sum := "030a8799a0311a2f265cdc856e63cec652faf42d7bc9b4ad8080ffb0fa7289c7", func := "eddy/eddylaw25.PanelThrough", spec := "panelThrough", inPlace := ["math.Float64bits", "math.Float64frombits", "math.sqrt", "math.archTrunc", "math.archMax"], unfollowed := true, recurses := true, apart := false, narrowed := true }
def PanelThroughUptoSaid : Prop := panelThroughUptoRow.holds Tryz.pinned (OpenSpec.upto panelThroughSpec)

/-- 'eddylaw25.PanelNames', WHERE WHAT IT READS IS OF BULK AT MOST 1048576: true; the input reads as it did. -/
def panelNamesUptoRow : OpenClaim := { program := "ytnbpfafngidimaagreat", sum := "030a8799a0311a2f265cdc856e63cec652faf42d7bc9b4ad8080ffb0fa7289c7", func := "eddy/eddylaw25.PanelNames", spec := "panelNames", inPlace := ["math.Float64bits", "math.Float64frombits", "math.sqrt", "math.archTrunc", "math.archMax"], unfollowed := true, recurses := true, apart := false, narrowed := true }
def PanelNamesUptoSaid : Prop := panelNamesUptoRow.holds Tryz.pinned (OpenSpec.upto panelNamesSpec)

/-- 'eddylaw25.PanelHalves', WHERE WHAT IT READS IS OF BULK AT MOST 1048576: true; the input reads as it did. -/
def panelHalvesUptoRow : OpenClaim := { program := "ytnbpfafngidimaagreat", sum := "030a8799a0311a2f265cdc856e63cec652faf42d7bc9b4ad8080ffb0fa7289c7", func := "eddy/eddylaw25.PanelHalves", spec := "panelHalves", inPlace := ["math.Float64bits", "math.Float64frombits", "math.sqrt", "math.archTrunc", "math.archMax", "math.archHypot"], unfollowed := true, recurses := true, apart := false, narrowed := true }
def PanelHalvesUptoSaid : Prop := panelHalvesUptoRow.holds Tryz.pinned (OpenSpec.upto panelHalvesSpec)

/-- 'eddylaw22.ForceNames', WHERE WHAT IT READS IS OF BULK AT MOST 1048576: true; the input reads as it did. -/
def forceNamesUptoRow : OpenClaim := { program := "ytnbpfafngidimaagreat", sum := "030a8799a0311a2f265cdc856e63cec652faf42d7bc9b4ad8080ffb0fa7289c7", func := "eddy/eddylaw22.ForceNames", spec := "forceNames", inPlace := ["math.Float64frombits", "math.Float64bits", "math.archTrunc", "math.sqrt", "math.RoundToEven"], unfollowed := true, recurses := true, apart := false, narrowed := true }
def ForceNamesUptoSaid : Prop := forceNamesUptoRow.holds Tryz.pinned (OpenSpec.upto forceNamesSpec)

/-- 'eddylaw22.ForceLift', WHERE WHAT IT READS IS OF BULK AT MOST 1048576: true; the input reads as it did. -/
def forceLiftUptoRow : OpenClaim := { program := "ytnbpfafngidimaagreat", sum := "030a8799a0311a2f265cdc856e63cec652faf42d7bc9b4ad8080ffb0fa7289c7", func := "eddy/eddylaw22.ForceLift", spec := "forceLift", inPlace := ["math.Float64frombits", "math.Float64bits", "math.archTrunc", "math.sqrt", "math.RoundToEven"], unfollowed := true, recurses := true, apart := false, narrowed := true }
def ForceLiftUptoSaid : Prop := forceLiftUptoRow.holds Tryz.pinned (OpenSpec.upto forceLiftSpec)

/-- 'eddylaw20.FoilNames', WHERE WHAT IT READS IS OF BULK AT MOST 1048576: true; the input reads as it did. -/
def foilNamesUptoRow : OpenClaim := { program := "ytnbpfafngidimaagreat", sum := "030a8799a0311a2f265cdc856e63cec652faf42d7bc9b4ad8080ffb0fa7289c7", func := "eddy/eddylaw20.FoilNames", spec := "foilNames", inPlace := ["math.Float64bits", "math.Float64frombits", "math.sqrt", "math.RoundToEven", "math.archTrunc", "math.archFloor"], unfollowed := true, recurses := true, apart := false, narrowed := true }
def FoilNamesUptoSaid : Prop := foilNamesUptoRow.holds Tryz.pinned (OpenSpec.upto foilNamesSpec)

end Rows
end Go.Proofs.YtnbpfafngidimaaGreat
