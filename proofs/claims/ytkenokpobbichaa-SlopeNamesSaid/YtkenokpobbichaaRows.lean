/-
  No cell of these rows narrows 'for every input' (looked for: loops, veiled, ifaces, maps, wideKeys, modest, calm, conditions, laid).
  DERIVED. THE GIVEN ROWS OF THIS SEAT. 13 by the template 'for every input the law returns true; each argument reads behind the call as it read before'; 0 by the template 'total and deterministic' (their statements: YtkenokpobbichaaTotals.lean).
  GIVEN WITH THE SEED: the statements are not yours to turn. If you find one false, say at which input.
  Laid BY PROGRAM, IN A SANDBOX (cutbox-rows.mjs): the forced cells as the released guide's own fill.sh prints them over the translation a1e63b5b3d73cffa… (all of the seat's roots in one cut). By AI agents, Wed Nov 11 2026. No macro, syntax, notation, axiom, sorry.
-/
import Derived.Test.YtkenokpobbichaaChecked
import GoSem.Claim
import GoSem.ClaimJoined
import GoSem.ClaimMapViews
import Derived.JoinedTies
import Derived.KernelRfl
namespace Go.Proofs.Ytkenokpobbichaa
/- THE CELL 'sum', in the pinned program and in every row, IS THE sha256 OF THE DUMP (.gsa) THAT YtkenokpobbichaaProg.lean LOADS. Nothing in Lean hashes anything: it is a label: what it is worth is what the hold of that sum in a sandbox is worth. -/
noncomputable def Try.pinned : Pinned := { name := "ytkenokpobbichaa", sum := "a1e63b5b3d73cffacb66ae3dd33eb7a5f400005ded9b49662da89f7471f6849d", checked := Try.checked }
namespace Rows
def none {H : Type} : Left H := { results := [], args := [] }

/-- 'sackunglaw01.SlopeSpans': WHATEVER THE INPUT: true; the input reads as it did. -/
def slopeSpansSpec : ChangeSpec := { name := "slopeSpans", fn := fun _ => fun
  | [d1, d2] => { results := [.lit (.bool true)], args := [d1, d2] }
  | _ => none }
def slopeSpansRow : OpenClaim := { program := "ytkenokpobbichaa", sum := "a1e63b5b3d73cffacb66ae3dd33eb7a5f400005ded9b49662da89f7471f6849d", func := "sackung/sackunglaw01.SlopeSpans", spec := "slopeSpans", unfollowed := true, recurses := true, plainKeys := false, apart := false }
def SlopeSpansSaid : Prop := slopeSpansRow.holds Try.pinned (OpenSpec.ofChange slopeSpansSpec)

/-- ITS FALSE NEIGHBOUR: 'it returns false'. Refute it at one input. -/
def slopeSpansWrong : ChangeSpec := { name := "slopeSpans", fn := fun _ => fun
  | [d1, d2] => { results := [.lit (.bool false)], args := [d1, d2] }
  | _ => none }
def SlopeSpansWrongFalsely : Prop := slopeSpansRow.holds Try.pinned (OpenSpec.ofChange slopeSpansWrong)

/-- 'sackunglaw01.SlopeWorsts': WHATEVER THE INPUT: true; the input reads as it did. -/
def slopeWorstsSpec : ChangeSpec := { name := "slopeWorsts", fn := fun _ => fun
  | [d] => { results := [.lit (.bool true)], args := [d] }
  | _ => none }
def slopeWorstsRow : OpenClaim := { program := "ytkenokpobbichaa", sum := "a1e63b5b3d73cffacb66ae3dd33eb7a5f400005ded9b49662da89f7471f6849d", func := "sackung/sackunglaw01.SlopeWorsts", spec := "slopeWorsts", unfollowed := true, recurses := true, plainKeys := false, apart := false }
def SlopeWorstsSaid : Prop := slopeWorstsRow.holds Try.pinned (OpenSpec.ofChange slopeWorstsSpec)

/-- ITS FALSE NEIGHBOUR: 'it returns false'. Refute it at one input. -/
def slopeWorstsWrong : ChangeSpec := { name := "slopeWorsts", fn := fun _ => fun
  | [d] => { results := [.lit (.bool false)], args := [d] }
  | _ => none }
def SlopeWorstsWrongFalsely : Prop := slopeWorstsRow.holds Try.pinned (OpenSpec.ofChange slopeWorstsWrong)

/-- 'sackunglaw01.SlopeMargins': WHATEVER THE INPUT: true; the input reads as it did. -/
def slopeMarginsSpec : ChangeSpec := { name := "slopeMargins", fn := fun _ => fun
  | [d1, d2] => { results := [.lit (.bool true)], args := [d1, d2] }
  | _ => none }
def slopeMarginsRow : OpenClaim := { program := "ytkenokpobbichaa", sum := "a1e63b5b3d73cffacb66ae3dd33eb7a5f400005ded9b49662da89f7471f6849d", func := "sackung/sackunglaw01.SlopeMargins", spec := "slopeMargins", unfollowed := true, recurses := true, plainKeys := false, apart := false }
def SlopeMarginsSaid : Prop := slopeMarginsRow.holds Try.pinned (OpenSpec.ofChange slopeMarginsSpec)

/-- ITS FALSE NEIGHBOUR: 'it returns false'. Refute it at one input. -/
def slopeMarginsWrong : ChangeSpec := { name := "slopeMargins", fn := fun _ => fun
  | [d1, d2] => { results := [.lit (.bool false)], args := [d1, d2] }
  | _ => none }
def SlopeMarginsWrongFalsely : Prop := slopeMarginsRow.holds Try.pinned (OpenSpec.ofChange slopeMarginsWrong)

/-- 'sackunglaw01.SlopeMoves': WHATEVER THE INPUT: true; the input reads as it did. -/
def slopeMovesSpec : ChangeSpec := { name := "slopeMoves", fn := fun _ => fun
  | [d1, d2] => { results := [.lit (.bool true)], args := [d1, d2] }
  | _ => none }
def slopeMovesRow : OpenClaim := { program := "ytkenokpobbichaa", sum := "a1e63b5b3d73cffacb66ae3dd33eb7a5f400005ded9b49662da89f7471f6849d", func := "sackung/sackunglaw01.SlopeMoves", spec := "slopeMoves", unfollowed := true, recurses := true, plainKeys := false, apart := false }
def SlopeMovesSaid : Prop := slopeMovesRow.holds Try.pinned (OpenSpec.ofChange slopeMovesSpec)

/-- ITS FALSE NEIGHBOUR: 'it returns false'. Refute it at one input. -/
def slopeMovesWrong : ChangeSpec := { name := "slopeMoves", fn := fun _ => fun
  | [d1, d2] => { results := [.lit (.bool false)], args := [d1, d2] }
  | _ => none }
def SlopeMovesWrongFalsely : Prop := slopeMovesRow.holds Try.pinned (OpenSpec.ofChange slopeMovesWrong)

/-- 'sackunglaw01.SlopeWater': WHATEVER THE INPUT: true; the input reads as it did. -/
def slopeWaterSpec : ChangeSpec := { name := "slopeWater", fn := fun _ => fun
  | [d1, d2, d3] => { results := [.lit (.bool true)], args := [d1, d2, d3] }
  | _ => none }
def slopeWaterRow : OpenClaim := { program := "ytkenokpobbichaa", sum := "a1e63b5b3d73cffacb66ae3dd33eb7a5f400005ded9b49662da89f7471f6849d", func := "sackung/sackunglaw01.SlopeWater", spec := "slopeWater", unfollowed := true, recurses := true, plainKeys := false, apart := false }
def SlopeWaterSaid : Prop := slopeWaterRow.holds Try.pinned (OpenSpec.ofChange slopeWaterSpec)

/-- ITS FALSE NEIGHBOUR: 'it returns false'. Refute it at one input. -/
def slopeWaterWrong : ChangeSpec := { name := "slopeWater", fn := fun _ => fun
  | [d1, d2, d3] => { results := [.lit (.bool false)], args := [d1, d2, d3] }
  | _ => none }
def SlopeWaterWrongFalsely : Prop := slopeWaterRow.holds Try.pinned (OpenSpec.ofChange slopeWaterWrong)

/-- 'sackunglaw01.SlopeStronger': WHATEVER THE INPUT: true; the input reads as it did. -/
def slopeStrongerSpec : ChangeSpec := { name := "slopeStronger", fn := fun _ => fun
  | [d1, d2, d3, d4, d5, d6] => { results := [.lit (.bool true)], args := [d1, d2, d3, d4, d5, d6] }
  | _ => none }
def slopeStrongerRow : OpenClaim := { program := "ytkenokpobbichaa", sum := "a1e63b5b3d73cffacb66ae3dd33eb7a5f400005ded9b49662da89f7471f6849d", func := "sackung/sackunglaw01.SlopeStronger", spec := "slopeStronger", unfollowed := true, recurses := true, plainKeys := false, apart := false }
def SlopeStrongerSaid : Prop := slopeStrongerRow.holds Try.pinned (OpenSpec.ofChange slopeStrongerSpec)

/-- ITS FALSE NEIGHBOUR: 'it returns false'. Refute it at one input. -/
def slopeStrongerWrong : ChangeSpec := { name := "slopeStronger", fn := fun _ => fun
  | [d1, d2, d3, d4, d5, d6] => { results := [.lit (.bool false)], args := [d1, d2, d3, d4, d5, d6] }
  | _ => none }
def SlopeStrongerWrongFalsely : Prop := slopeStrongerRow.holds Try.pinned (OpenSpec.ofChange slopeStrongerWrong)

/-- 'sackunglaw01.SlopeMoving': WHATEVER THE INPUT: true; the input reads as it did. -/
def slopeMovingSpec : ChangeSpec := { name := "slopeMoving", fn := fun _ => fun
  | [d1, d2, d3] => { results := [.lit (.bool true)], args := [d1, d2, d3] }
  | _ => none }
def slopeMovingRow : OpenClaim := { program := "ytkenokpobbichaa", sum := "a1e63b5b3d73cffacb66ae3dd33eb7a5f400005ded9b49662da89f7471f6849d", func := "sackung/sackunglaw01.SlopeMoving", spec := "slopeMoving", unfollowed := true, recurses := true, plainKeys := false, apart := false }
def SlopeMovingSaid : Prop := slopeMovingRow.holds Try.pinned (OpenSpec.ofChange slopeMovingSpec)

/-- ITS FALSE NEIGHBOUR: 'it returns false'. Refute it at one input. -/
def slopeMovingWrong : ChangeSpec := { name := "slopeMoving", fn := fun _ => fun
  | [d1, d2, d3] => { results := [.lit (.bool false)], args := [d1, d2, d3] }
  | _ => none }
def SlopeMovingWrongFalsely : Prop := slopeMovingRow.holds Try.pinned (OpenSpec.ofChange slopeMovingWrong)

/-- 'sackunglaw01.SlopeFamily': WHATEVER THE INPUT: true; the input reads as it did. -/
def slopeFamilySpec : ChangeSpec := { name := "slopeFamily", fn := fun _ => fun
  | [d1, d2] => { results := [.lit (.bool true)], args := [d1, d2] }
  | _ => none }
def slopeFamilyRow : OpenClaim := { program := "ytkenokpobbichaa", sum := "a1e63b5b3d73cffacb66ae3dd33eb7a5f400005ded9b49662da89f7471f6849d", func := "sackung/sackunglaw01.SlopeFamily", spec := "slopeFamily", unfollowed := true, recurses := true, plainKeys := false, apart := false }
def SlopeFamilySaid : Prop := slopeFamilyRow.holds Try.pinned (OpenSpec.ofChange slopeFamilySpec)

/-- ITS FALSE NEIGHBOUR: 'it returns false'. Refute it at one input. -/
def slopeFamilyWrong : ChangeSpec := { name := "slopeFamily", fn := fun _ => fun
  | [d1, d2] => { results := [.lit (.bool false)], args := [d1, d2] }
  | _ => none }
def SlopeFamilyWrongFalsely : Prop := slopeFamilyRow.holds Try.pinned (OpenSpec.ofChange slopeFamilyWrong)

/-- 'sackunglaw01.SlopeTruth': WHATEVER THE INPUT: true; the input reads as it did. -/
def slopeTruthSpec : ChangeSpec := { name := "slopeTruth", fn := fun _ => fun
  | [d1, d2, d3] => { results := [.lit (.bool true)], args := [d1, d2, d3] }
  | _ => none }
def slopeTruthRow : OpenClaim := { program := "ytkenokpobbichaa", sum := "a1e63b5b3d73cffacb66ae3dd33eb7a5f400005ded9b49662da89f7471f6849d", func := "sackung/sackunglaw01.SlopeTruth", spec := "slopeTruth", unfollowed := true, recurses := true, plainKeys := false, apart := false }
def SlopeTruthSaid : Prop := slopeTruthRow.holds Try.pinned (OpenSpec.ofChange slopeTruthSpec)

/-- ITS FALSE NEIGHBOUR: 'it returns false'. Refute it at one input. -/
def slopeTruthWrong : ChangeSpec := { name := "slopeTruth", fn := fun _ => fun
  | [d1, d2, d3] => { results := [.lit (.bool false)], args := [d1, d2, d3] }
  | _ => none }
def SlopeTruthWrongFalsely : Prop := slopeTruthRow.holds Try.pinned (OpenSpec.ofChange slopeTruthWrong)

/-- 'sackunglaw01.SlopeFactors': WHATEVER THE INPUT: true; the input reads as it did. -/
def slopeFactorsSpec : ChangeSpec := { name := "slopeFactors", fn := fun _ => fun
  | [d1, d2, d3] => { results := [.lit (.bool true)], args := [d1, d2, d3] }
  | _ => none }
def slopeFactorsRow : OpenClaim := { program := "ytkenokpobbichaa", sum := "a1e63b5b3d73cffacb66ae3dd33eb7a5f400005ded9b49662da89f7471f6849d", func := "sackung/sackunglaw01.SlopeFactors", spec := "slopeFactors", unfollowed := true, recurses := true, plainKeys := false, apart := false }
def SlopeFactorsSaid : Prop := slopeFactorsRow.holds Try.pinned (OpenSpec.ofChange slopeFactorsSpec)

/-- ITS FALSE NEIGHBOUR: 'it returns false'. Refute it at one input. -/
def slopeFactorsWrong : ChangeSpec := { name := "slopeFactors", fn := fun _ => fun
  | [d1, d2, d3] => { results := [.lit (.bool false)], args := [d1, d2, d3] }
  | _ => none }
def SlopeFactorsWrongFalsely : Prop := slopeFactorsRow.holds Try.pinned (OpenSpec.ofChange slopeFactorsWrong)

/-- 'sackunglaw01.SlopeProofs': WHATEVER THE INPUT: true; the input reads as it did. -/
def slopeProofsSpec : ChangeSpec := { name := "slopeProofs", fn := fun _ => fun
  | [d1, d2, d3, d4, d5, d6, d7, d8] => { results := [.lit (.bool true)], args := [d1, d2, d3, d4, d5, d6, d7, d8] }
  | _ => none }
def slopeProofsRow : OpenClaim := { program := "ytkenokpobbichaa", sum := "a1e63b5b3d73cffacb66ae3dd33eb7a5f400005ded9b49662da89f7471f6849d", func := "sackung/sackunglaw01.SlopeProofs", spec := "slopeProofs", unfollowed := true, recurses := true, plainKeys := false, apart := false }
def SlopeProofsSaid : Prop := slopeProofsRow.holds Try.pinned (OpenSpec.ofChange slopeProofsSpec)

/-- ITS FALSE NEIGHBOUR: 'it returns false'. Refute it at one input. -/
def slopeProofsWrong : ChangeSpec := { name := "slopeProofs", fn := fun _ => fun
  | [d1, d2, d3, d4, d5, d6, d7, d8] => { results := [.lit (.bool false)], args := [d1, d2, d3, d4, d5, d6, d7, d8] }
  | _ => none }
def SlopeProofsWrongFalsely : Prop := slopeProofsRow.holds Try.pinned (OpenSpec.ofChange slopeProofsWrong)

/-- 'sackunglaw01.SlopeLeast': WHATEVER THE INPUT: true; the input reads as it did. -/
def slopeLeastSpec : ChangeSpec := { name := "slopeLeast", fn := fun _ => fun
  | [d1, d2, d3, d4] => { results := [.lit (.bool true)], args := [d1, d2, d3, d4] }
  | _ => none }
def slopeLeastRow : OpenClaim := { program := "ytkenokpobbichaa", sum := "a1e63b5b3d73cffacb66ae3dd33eb7a5f400005ded9b49662da89f7471f6849d", func := "sackung/sackunglaw01.SlopeLeast", spec := "slopeLeast", unfollowed := true, recurses := true, plainKeys := false, apart := false }
def SlopeLeastSaid : Prop := slopeLeastRow.holds Try.pinned (OpenSpec.ofChange slopeLeastSpec)

/-- ITS FALSE NEIGHBOUR: 'it returns false'. Refute it at one input. -/
def slopeLeastWrong : ChangeSpec := { name := "slopeLeast", fn := fun _ => fun
  | [d1, d2, d3, d4] => { results := [.lit (.bool false)], args := [d1, d2, d3, d4] }
  | _ => none }
def SlopeLeastWrongFalsely : Prop := slopeLeastRow.holds Try.pinned (OpenSpec.ofChange slopeLeastWrong)

/-- 'sackunglaw01.SlopeNames': WHATEVER THE INPUT: true; the input reads as it did. -/
def slopeNamesSpec : ChangeSpec := { name := "slopeNames", fn := fun _ => fun
  | [] => { results := [.lit (.bool true)], args := [] }
  | _ => none }
def slopeNamesRow : OpenClaim := { program := "ytkenokpobbichaa", sum := "a1e63b5b3d73cffacb66ae3dd33eb7a5f400005ded9b49662da89f7471f6849d", func := "sackung/sackunglaw01.SlopeNames", spec := "slopeNames", unfollowed := true, recurses := true, plainKeys := false, apart := false }
def SlopeNamesSaid : Prop := slopeNamesRow.holds Try.pinned (OpenSpec.ofChange slopeNamesSpec)

/-- ITS FALSE NEIGHBOUR: 'it returns false'. Refute it at one input. -/
def slopeNamesWrong : ChangeSpec := { name := "slopeNames", fn := fun _ => fun
  | [] => { results := [.lit (.bool false)], args := [] }
  | _ => none }
def SlopeNamesWrongFalsely : Prop := slopeNamesRow.holds Try.pinned (OpenSpec.ofChange slopeNamesWrong)

/- THE SECOND FORM. 'bulk': how many values and letters a reading holds, each counted each time it is reached (what is shared counts as often as it is met; a slice's spare places count too). A statement '..UptoSaid' is the law's where the arguments, and the package variables that the reading takes, are together of bulk at most 1048576: NARROWER than '..Said'. Prove '..Said' where nothing that the law and all that it calls make is longer than what came in: it says more and counts as full. Else prove '..UptoSaid'. A law counts once. -/
mutual
def uptoBulk {H : Type} : DataW H → Nat
  | .lit (.string bytes) => bytes.length + 1
  | .lit _ => 1
  | .nil => 1
  | .ptr d => uptoBulk d + 1
  | .slice elems spare => uptoBulkAll elems + uptoBulkAll spare + 1
  | .agg parts => uptoBulkAll parts + 1
  | .iface _ d => uptoBulk d + 1
  | .map entries => uptoBulkEntries entries + 1
  | .held _ => 1
def uptoBulkAll {H : Type} : List (DataW H) → Nat
  | [] => 0
  | d :: r => uptoBulk d + uptoBulkAll r
def uptoBulkEntries {H : Type} : List (Lit × DataW H) → Nat
  | [] => 0
  | x :: r => uptoBulkEntry x + uptoBulkEntries r
def uptoBulkEntry {H : Type} : Lit × DataW H → Nat
  | (.string bytes, d) => bytes.length + uptoBulk d + 1
  | (_, d) => uptoBulk d + 1
 end
def uptoSmall : (H : Type) → List (DataW H) → Bool := fun _ ds => decide (uptoBulkAll ds ≤ 1048576)
def OpenSpec.upto (s : _root_.Go.ChangeSpec) : _root_.Go.OpenSpec := { _root_.Go.OpenSpec.ofChange s with cond := some uptoSmall }

/-- 'sackunglaw01.SlopeSpans', WHERE WHAT IT READS IS OF BULK AT MOST 1048576: true; the input reads as it did. -/
def slopeSpansUptoRow : OpenClaim := { program := "ytkenokpobbichaa", sum := "a1e63b5b3d73cffacb66ae3dd33eb7a5f400005ded9b49662da89f7471f6849d", func := "sackung/sackunglaw01.SlopeSpans", spec := "slopeSpans", unfollowed := true, recurses := true, plainKeys := false, apart := false, narrowed := true }
def SlopeSpansUptoSaid : Prop := slopeSpansUptoRow.holds Try.pinned (OpenSpec.upto slopeSpansSpec)

/-- 'sackunglaw01.SlopeWorsts', WHERE WHAT IT READS IS OF BULK AT MOST 1048576: true; the input reads as it did. -/
def slopeWorstsUptoRow : OpenClaim := { program := "ytkenokpobbichaa", sum := "a1e63b5b3d73cffacb66ae3dd33eb7a5f400005ded9b49662da89f7471f6849d", func := "sackung/sackunglaw01.SlopeWorsts", spec := "slopeWorsts", unfollowed := true, recurses := true, plainKeys := false, apart := false, narrowed := true }
def SlopeWorstsUptoSaid : Prop := slopeWorstsUptoRow.holds Try.pinned (OpenSpec.upto slopeWorstsSpec)

/-- 'sackunglaw01.SlopeMargins', WHERE WHAT IT READS IS OF BULK AT MOST 1048576: true; the input reads as it did. -/
def slopeMarginsUptoRow : OpenClaim := { program := "ytkenokpobbichaa", sum := "a1e63b5b3d73cffacb66ae3dd33eb7a5f400005ded9b49662da89f7471f6849d", func := "sackung/sackunglaw01.SlopeMargins", spec := "slopeMargins", unfollowed := true, recurses := true, plainKeys := false, apart := false, narrowed := true }
def SlopeMarginsUptoSaid : Prop := slopeMarginsUptoRow.holds Try.pinned (OpenSpec.upto slopeMarginsSpec)

/-- 'sackunglaw01.SlopeMoves', WHERE WHAT IT READS IS OF BULK AT MOST 1048576: true; the input reads as it did. -/
def slopeMovesUptoRow : OpenClaim := { program := "ytkenokpobbichaa", sum := "a1e63b5b3d73cffacb66ae3dd33eb7a5f400005ded9b49662da89f7471f6849d", func := "sackung/sackunglaw01.SlopeMoves", spec := "slopeMoves", unfollowed := true, recurses := true, plainKeys := false, apart := false, narrowed := true }
def SlopeMovesUptoSaid : Prop := slopeMovesUptoRow.holds Try.pinned (OpenSpec.upto slopeMovesSpec)

/-- 'sackunglaw01.SlopeWater', WHERE WHAT IT READS IS OF BULK AT MOST 1048576: true; the input reads as it did. -/
def slopeWaterUptoRow : OpenClaim := { program := "ytkenokpobbichaa", sum := "a1e63b5b3d73cffacb66ae3dd33eb7a5f400005ded9b49662da89f7471f6849d", func := "sackung/sackunglaw01.SlopeWater", spec := "slopeWater", unfollowed := true, recurses := true, plainKeys := false, apart := false, narrowed := true }
def SlopeWaterUptoSaid : Prop := slopeWaterUptoRow.holds Try.pinned (OpenSpec.upto slopeWaterSpec)

/-- 'sackunglaw01.SlopeStronger', WHERE WHAT IT READS IS OF BULK AT MOST 1048576: true; the input reads as it did. -/
def slopeStrongerUptoRow : OpenClaim := { program := "ytkenokpobbichaa", sum := "a1e63b5b3d73cffacb66ae3dd33eb7a5f400005ded9b49662da89f7471f6849d", func := "sackung/sackunglaw01.SlopeStronger", spec := "slopeStronger", unfollowed := true, recurses := true, plainKeys := false, apart := false, narrowed := true }
def SlopeStrongerUptoSaid : Prop := slopeStrongerUptoRow.holds Try.pinned (OpenSpec.upto slopeStrongerSpec)

/-- 'sackunglaw01.SlopeMoving', WHERE WHAT IT READS IS OF BULK AT MOST 1048576: true; the input reads as it did. -/
def slopeMovingUptoRow : OpenClaim := { program := "ytkenokpobbichaa", sum := "a1e63b5b3d73cffacb66ae3dd33eb7a5f400005ded9b49662da89f7471f6849d", func := "sackung/sackunglaw01.SlopeMoving", spec := "slopeMoving", unfollowed := true, recurses := true, plainKeys := false, apart := false, narrowed := true }
def SlopeMovingUptoSaid : Prop := slopeMovingUptoRow.holds Try.pinned (OpenSpec.upto slopeMovingSpec)

/-- 'sackunglaw01.SlopeFamily', WHERE WHAT IT READS IS OF BULK AT MOST 1048576: true; the input reads as it did. -/
def slopeFamilyUptoRow : OpenClaim := { program := "ytkenokpobbichaa", sum := "a1e63b5b3d73cffacb66ae3dd33eb7a5f400005ded9b49662da89f7471f6849d", func := "sackung/sackunglaw01.SlopeFamily", spec := "slopeFamily", unfollowed := true, recurses := true, plainKeys := false, apart := false, narrowed := true }
def SlopeFamilyUptoSaid : Prop := slopeFamilyUptoRow.holds Try.pinned (OpenSpec.upto slopeFamilySpec)

/-- 'sackunglaw01.SlopeTruth', WHERE WHAT IT READS IS OF BULK AT MOST 1048576: true; the input reads as it did. -/
def slopeTruthUptoRow : OpenClaim := { program := "ytkenokpobbichaa", sum := "a1e63b5b3d73cffacb66ae3dd33eb7a5f400005ded9b49662da89f7471f6849d", func := "sackung/sackunglaw01.SlopeTruth", spec := "slopeTruth", unfollowed := true, recurses := true, plainKeys := false, apart := false, narrowed := true }
def SlopeTruthUptoSaid : Prop := slopeTruthUptoRow.holds Try.pinned (OpenSpec.upto slopeTruthSpec)

/-- 'sackunglaw01.SlopeFactors', WHERE WHAT IT READS IS OF BULK AT MOST 1048576: true; the input reads as it did. -/
def slopeFactorsUptoRow : OpenClaim := { program := "ytkenokpobbichaa", sum := "a1e63b5b3d73cffacb66ae3dd33eb7a5f400005ded9b49662da89f7471f6849d", func := "sackung/sackunglaw01.SlopeFactors", spec := "slopeFactors", unfollowed := true, recurses := true, plainKeys := false, apart := false, narrowed := true }
def SlopeFactorsUptoSaid : Prop := slopeFactorsUptoRow.holds Try.pinned (OpenSpec.upto slopeFactorsSpec)

/-- 'sackunglaw01.SlopeProofs', WHERE WHAT IT READS IS OF BULK AT MOST 1048576: true; the input reads as it did. -/
def slopeProofsUptoRow : OpenClaim := { program := "ytkenokpobbichaa", sum := "a1e63b5b3d73cffacb66ae3dd33eb7a5f400005ded9b49662da89f7471f6849d", func := "sackung/sackunglaw01.SlopeProofs", spec := "slopeProofs", unfollowed := true, recurses := true, plainKeys := false, apart := false, narrowed := true }
def SlopeProofsUptoSaid : Prop := slopeProofsUptoRow.holds Try.pinned (OpenSpec.upto slopeProofsSpec)

/-- 'sackunglaw01.SlopeLeast', WHERE WHAT IT READS IS OF BULK AT MOST 1048576: true; the input reads as it did. -/
def slopeLeastUptoRow : OpenClaim := { program := "ytkenokpobbichaa", sum := "a1e63b5b3d73cffacb66ae3dd33eb7a5f400005ded9b49662da89f7471f6849d", func := "sackung/sackunglaw01.SlopeLeast", spec := "slopeLeast", unfollowed := true, recurses := true, plainKeys := false, apart := false, narrowed := true }
def SlopeLeastUptoSaid : Prop := slopeLeastUptoRow.holds Try.pinned (OpenSpec.upto slopeLeastSpec)

/-- 'sackunglaw01.SlopeNames', WHERE WHAT IT READS IS OF BULK AT MOST 1048576: true; the input reads as it did. -/
def slopeNamesUptoRow : OpenClaim := { program := "ytkenokpobbichaa", sum := "a1e63b5b3d73cffacb66ae3dd33eb7a5f400005ded9b49662da89f7471f6849d", func := "sackung/sackunglaw01.SlopeNames", spec := "slopeNames", unfollowed := true, recurses := true, plainKeys := false, apart := false, narrowed := true }
def SlopeNamesUptoSaid : Prop := slopeNamesUptoRow.holds Try.pinned (OpenSpec.upto slopeNamesSpec)

end Rows
end Go.Proofs.Ytkenokpobbichaa
