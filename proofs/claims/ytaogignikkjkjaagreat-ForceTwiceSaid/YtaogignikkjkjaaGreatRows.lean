/-
  No cell of these rows narrows 'for every input' (looked for: loops, veiled, ifaces, maps, wideKeys, modest, calm, conditions, laid).
  DERIVED. THE GIVEN ROWS OF THIS SEAT. 2 by the template 'for every input the law returns true; each argument reads behind the call as it read before'; 0 by the template 'total and deterministic' (their statements: YtaogignikkjkjaaGreatTotals.lean).
  GIVEN WITH THE SEED: the statements are not yours to turn. If you find one false, say at which input.
  Laid BY PROGRAM, IN A SANDBOX (cutbox-rows.mjs): the forced cells as the released guide's own fill.sh prints them over the translation b8a87949bfaa5b29… (all of the seat's roots in one cut). By AI agents, Wed Nov 11 2026. No macro, syntax, notation, axiom, sorry.
-/
import Derived.Test.YtaogignikkjkjaaGreatChecked
import GoSem.Claim
import GoSem.ClaimJoined
import GoSem.ClaimMapViews
import Derived.JoinedTies
import Derived.KernelRfl
namespace Go.Proofs.YtaogignikkjkjaaGreat
/- THE CELL 'sum', in the pinned program and in every row, IS THE sha256 OF THE DUMP (.gsa) THAT YtaogignikkjkjaaGreatProg.lean LOADS. Nothing in Lean hashes anything: it is a label: what it is worth is what the hold of that sum in a sandbox is worth. -/
noncomputable def Tryz.pinned : Pinned := { name := "ytaogignikkjkjaagreat", sum := "b8a87949bfaa5b2990c5f5e8dfdb3eb64e609f7715b50b3d20083247273c40f6", checked := Tryz.checked }
namespace Rows
def none {H : Type} : Left H := { results := [], args := [] }

/-- 'eddylaw21.RingWhole': WHATEVER THE INPUT: true; the input reads as it did. -/
def ringWholeSpec : ChangeSpec := { name := "ringWhole", fn := fun _ => fun
  | [d1, d2, d3, d4] => { results := [.lit (.bool true)], args := [d1, d2, d3, d4] }
  | _ => none }
def ringWholeRow : OpenClaim := { program := "ytaogignikkjkjaagreat", sum := "b8a87949bfaa5b2990c5f5e8dfdb3eb64e609f7715b50b3d20083247273c40f6", func := "eddy/eddylaw21.RingWhole", spec := "ringWhole", inPlace := ["math.Float64bits", "math.Float64frombits", "math.archTrunc", "math.sqrt", "math.RoundToEven"], unfollowed := true, recurses := true, apart := false }
def RingWholeSaid : Prop := ringWholeRow.holds Tryz.pinned (OpenSpec.ofChange ringWholeSpec)

/-- ITS FALSE NEIGHBOUR: 'it returns false'. Refute it at one input. -/
def ringWholeWrong : ChangeSpec := { name := "ringWhole", fn := fun _ => fun
  | [d1, d2, d3, d4] => { results := [.lit (.bool false)], args := [d1, d2, d3, d4] }
  | _ => none }
def RingWholeWrongFalsely : Prop := ringWholeRow.holds Tryz.pinned (OpenSpec.ofChange ringWholeWrong)

/-- 'eddylaw22.ForceTwice': WHATEVER THE INPUT: true; the input reads as it did. -/
def forceTwiceSpec : ChangeSpec := { name := "forceTwice", fn := fun _ => fun
  | [d1, d2, d3, d4, d5] => { results := [.lit (.bool true)], args := [d1, d2, d3, d4, d5] }
  | _ => none }
def forceTwiceRow : OpenClaim := { program := "ytaogignikkjkjaagreat", sum := "b8a87949bfaa5b2990c5f5e8dfdb3eb64e609f7715b50b3d20083247273c40f6", func := "eddy/eddylaw22.ForceTwice", spec := "forceTwice", inPlace := ["math.Float64frombits", "math.Float64bits", "math.archTrunc", "math.sqrt", "math.RoundToEven", "math.archHypot"], unfollowed := true, recurses := true, apart := false }
def ForceTwiceSaid : Prop := forceTwiceRow.holds Tryz.pinned (OpenSpec.ofChange forceTwiceSpec)

/-- ITS FALSE NEIGHBOUR: 'it returns false'. Refute it at one input. -/
def forceTwiceWrong : ChangeSpec := { name := "forceTwice", fn := fun _ => fun
  | [d1, d2, d3, d4, d5] => { results := [.lit (.bool false)], args := [d1, d2, d3, d4, d5] }
  | _ => none }
def ForceTwiceWrongFalsely : Prop := forceTwiceRow.holds Tryz.pinned (OpenSpec.ofChange forceTwiceWrong)

/- THE SECOND FORM. 'bulk': how many values and letters a reading holds, each counted each time it is reached (what is shared counts as often as it is met; a slice's spare places count too). A statement '..UptoSaid' is the law's where the arguments, and the package variables that the reading takes, are together of bulk at most 1048576: NARROWER than '..Said'. Prove '..Said' where nothing that the law and all that it calls make is longer than what came in: it says more and counts as full. Else prove '..UptoSaid'. A law counts once. -/
mutual
def uptoBulk {H : Type} : DataW H → Nat
  | .lit (.string bytes) => bytes.length + 1
  | .lit _ => 1
  | .nil => 1
  | .ptr d => uptoBulk d + 1
  | .slice elems spare => uptoBulkAll elems + uptoBulkAll spare + 1
  | .agg parts => uptoBulkAll parts + 1
  | .iface _ d => uptoBulk d + 1
  | .map entries => uptoBulkEntries entries + 1
  | .held _ => 1
def uptoBulkAll {H : Type} : List (DataW H) → Nat
  | [] => 0
  | d :: r => uptoBulk d + uptoBulkAll r
def uptoBulkEntries {H : Type} : List (Lit × DataW H) → Nat
  | [] => 0
  | x :: r => uptoBulkEntry x + uptoBulkEntries r
def uptoBulkEntry {H : Type} : Lit × DataW H → Nat
  | (.string bytes, d) => bytes.length + uptoBulk d + 1
  | (_, d) => uptoBulk d + 1
 end
def uptoSmall : (H : Type) → List (DataW H) → Bool := fun _ ds => decide (uptoBulkAll ds ≤ 1048576)
def OpenSpec.upto (s : _root_.Go.ChangeSpec) : _root_.Go.OpenSpec := { _root_.Go.OpenSpec.ofChange s with cond := some uptoSmall }

/-- 'eddylaw21.RingWhole', WHERE WHAT IT READS IS OF BULK AT MOST 1048576: true; the input reads as it did. -/
def ringWholeUptoRow : OpenClaim := { program := "ytaogignikkjkjaagreat", sum := "b8a87949bfaa5b2990c5f5e8dfdb3eb64e609f7715b50b3d20083247273c40f6", func := "eddy/eddylaw21.RingWhole", spec := "ringWhole", inPlace := ["math.Float64bits", "math.Float64frombits", "math.archTrunc", "math.sqrt", "math.RoundToEven"], unfollowed := true, recurses := true, apart := false, narrowed := true }
def RingWholeUptoSaid : Prop := ringWholeUptoRow.holds Tryz.pinned (OpenSpec.upto ringWholeSpec)

/-- 'eddylaw22.ForceTwice', WHERE WHAT IT READS IS OF BULK AT MOST 1048576: true; the input reads as it did. -/
def forceTwiceUptoRow : OpenClaim := { program := "ytaogignikkjkjaagreat", sum := "b8a87949bfaa5b2990c5f5e8dfdb3eb64e609f7715b50b3d20083247273c40f6", func := "eddy/eddylaw22.ForceTwice", spec := "forceTwice", inPlace := ["math.Float64frombits", "math.Float64bits", "math.archTrunc", "math.sqrt", "math.RoundToEven", "math.archHypot"], unfollowed := true, recurses := true, apart := false, narrowed := true }
def ForceTwiceUptoSaid : Prop := forceTwiceUptoRow.holds Tryz.pinned (OpenSpec.upto forceTwiceSpec)

end Rows
end Go.Proofs.YtaogignikkjkjaaGreat
