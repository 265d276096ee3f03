/-
  No cell of these rows narrows 'for every input' (looked for: loops, veiled, ifaces, maps, wideKeys, modest, calm, conditions, laid).
  DERIVED. THE GIVEN ROWS OF THIS SEAT. 13 by the template 'for every input the law returns true; each argument reads behind the call as it read before'; 0 by the template 'total and deterministic' (their statements: YtpnpnfjhjjdmgaaTotals.lean).
  GIVEN WITH THE SEED: the statements are not yours to turn. If you find one false, say at which input.
  Laid BY PROGRAM, IN A SANDBOX (cutbox-rows.mjs): the forced cells as the released guide's own fill.sh prints them over the translation 8b12b56fcbe8d284… (all of the seat's roots in one cut). By AI agents, Wed Nov 11 2026. No macro, syntax, notation, axiom, sorry.
-/
import Derived.Test.YtpnpnfjhjjdmgaaChecked
import GoSem.Claim
import GoSem.ClaimJoined
import GoSem.ClaimMapViews
import Derived.JoinedTies
import Derived.KernelRfl
namespace Go.Proofs.Ytpnpnfjhjjdmgaa
/- THE CELL 'sum', in the pinned program and in every row, IS THE sha256 OF THE DUMP (.gsa) THAT YtpnpnfjhjjdmgaaProg.lean LOADS. Nothing in Lean hashes anything: it is a label: what it is worth is what the hold of that sum in a sandbox is worth. -/
noncomputable def Try.pinned : Pinned := { name := "ytpnpnfjhjjdmgaa", sum := "8b12b56fcbe8d2845b4b4042d407fa7bd22e37c1944b9730a0440b8b22448575", checked := Try.checked }
namespace Rows
def none {H : Type} : Left H := { results := [], args := [] }

/-- 'sackunglaw06.WorksAdds': WHATEVER THE INPUT: true; the input reads as it did. -/
def worksAddsSpec : ChangeSpec := { name := "worksAdds", fn := fun _ => fun
  | [d1, d2, d3, d4] => { results := [.lit (.bool true)], args := [d1, d2, d3, d4] }
  | _ => none }
def worksAddsRow : OpenClaim := { program := "ytpnpnfjhjjdmgaa", sum := "8b12b56fcbe8d2845b4b4042d407fa7bd22e37c1944b9730a0440b8b22448575", func := "sackung/sackunglaw06.WorksAdds", spec := "worksAdds", unfollowed := true, recurses := true, plainKeys := false, apart := false }
def WorksAddsSaid : Prop := worksAddsRow.holds Try.pinned (OpenSpec.ofChange worksAddsSpec)

/-- ITS FALSE NEIGHBOUR: 'it returns false'. Refute it at one input. -/
def worksAddsWrong : ChangeSpec := { name := "worksAdds", fn := fun _ => fun
  | [d1, d2, d3, d4] => { results := [.lit (.bool false)], args := [d1, d2, d3, d4] }
  | _ => none }
def WorksAddsWrongFalsely : Prop := worksAddsRow.holds Try.pinned (OpenSpec.ofChange worksAddsWrong)

/-- 'sackunglaw06.WorksBests': WHATEVER THE INPUT: true; the input reads as it did. -/
def worksBestsSpec : ChangeSpec := { name := "worksBests", fn := fun _ => fun
  | [d] => { results := [.lit (.bool true)], args := [d] }
  | _ => none }
def worksBestsRow : OpenClaim := { program := "ytpnpnfjhjjdmgaa", sum := "8b12b56fcbe8d2845b4b4042d407fa7bd22e37c1944b9730a0440b8b22448575", func := "sackung/sackunglaw06.WorksBests", spec := "worksBests", unfollowed := true, recurses := true, plainKeys := false, apart := false }
def WorksBestsSaid : Prop := worksBestsRow.holds Try.pinned (OpenSpec.ofChange worksBestsSpec)

/-- ITS FALSE NEIGHBOUR: 'it returns false'. Refute it at one input. -/
def worksBestsWrong : ChangeSpec := { name := "worksBests", fn := fun _ => fun
  | [d] => { results := [.lit (.bool false)], args := [d] }
  | _ => none }
def WorksBestsWrongFalsely : Prop := worksBestsRow.holds Try.pinned (OpenSpec.ofChange worksBestsWrong)

/-- 'sackunglaw06.WorksProofs': WHATEVER THE INPUT: true; the input reads as it did. -/
def worksProofsSpec : ChangeSpec := { name := "worksProofs", fn := fun _ => fun
  | [d1, d2, d3] => { results := [.lit (.bool true)], args := [d1, d2, d3] }
  | _ => none }
def worksProofsRow : OpenClaim := { program := "ytpnpnfjhjjdmgaa", sum := "8b12b56fcbe8d2845b4b4042d407fa7bd22e37c1944b9730a0440b8b22448575", func := "sackung/sackunglaw06.WorksProofs", spec := "worksProofs", unfollowed := true, recurses := true, plainKeys := false, apart := false }
def WorksProofsSaid : Prop := worksProofsRow.holds Try.pinned (OpenSpec.ofChange worksProofsSpec)

/-- ITS FALSE NEIGHBOUR: 'it returns false'. Refute it at one input. -/
def worksProofsWrong : ChangeSpec := { name := "worksProofs", fn := fun _ => fun
  | [d1, d2, d3] => { results := [.lit (.bool false)], args := [d1, d2, d3] }
  | _ => none }
def WorksProofsWrongFalsely : Prop := worksProofsRow.holds Try.pinned (OpenSpec.ofChange worksProofsWrong)

/-- 'sackunglaw06.WorksNeeds': WHATEVER THE INPUT: true; the input reads as it did. -/
def worksNeedsSpec : ChangeSpec := { name := "worksNeeds", fn := fun _ => fun
  | [d] => { results := [.lit (.bool true)], args := [d] }
  | _ => none }
def worksNeedsRow : OpenClaim := { program := "ytpnpnfjhjjdmgaa", sum := "8b12b56fcbe8d2845b4b4042d407fa7bd22e37c1944b9730a0440b8b22448575", func := "sackung/sackunglaw06.WorksNeeds", spec := "worksNeeds", unfollowed := true, recurses := true, plainKeys := false, apart := false }
def WorksNeedsSaid : Prop := worksNeedsRow.holds Try.pinned (OpenSpec.ofChange worksNeedsSpec)

/-- ITS FALSE NEIGHBOUR: 'it returns false'. Refute it at one input. -/
def worksNeedsWrong : ChangeSpec := { name := "worksNeeds", fn := fun _ => fun
  | [d] => { results := [.lit (.bool false)], args := [d] }
  | _ => none }
def WorksNeedsWrongFalsely : Prop := worksNeedsRow.holds Try.pinned (OpenSpec.ofChange worksNeedsWrong)

/-- 'sackunglaw06.WorksMore': WHATEVER THE INPUT: true; the input reads as it did. -/
def worksMoreSpec : ChangeSpec := { name := "worksMore", fn := fun _ => fun
  | [d1, d2, d3, d4, d5] => { results := [.lit (.bool true)], args := [d1, d2, d3, d4, d5] }
  | _ => none }
def worksMoreRow : OpenClaim := { program := "ytpnpnfjhjjdmgaa", sum := "8b12b56fcbe8d2845b4b4042d407fa7bd22e37c1944b9730a0440b8b22448575", func := "sackung/sackunglaw06.WorksMore", spec := "worksMore", unfollowed := true, recurses := true, plainKeys := false, apart := false }
def WorksMoreSaid : Prop := worksMoreRow.holds Try.pinned (OpenSpec.ofChange worksMoreSpec)

/-- ITS FALSE NEIGHBOUR: 'it returns false'. Refute it at one input. -/
def worksMoreWrong : ChangeSpec := { name := "worksMore", fn := fun _ => fun
  | [d1, d2, d3, d4, d5] => { results := [.lit (.bool false)], args := [d1, d2, d3, d4, d5] }
  | _ => none }
def WorksMoreWrongFalsely : Prop := worksMoreRow.holds Try.pinned (OpenSpec.ofChange worksMoreWrong)

/-- 'sackunglaw06.WorksAges': WHATEVER THE INPUT: true; the input reads as it did. -/
def worksAgesSpec : ChangeSpec := { name := "worksAges", fn := fun _ => fun
  | [d1, d2, d3, d4] => { results := [.lit (.bool true)], args := [d1, d2, d3, d4] }
  | _ => none }
def worksAgesRow : OpenClaim := { program := "ytpnpnfjhjjdmgaa", sum := "8b12b56fcbe8d2845b4b4042d407fa7bd22e37c1944b9730a0440b8b22448575", func := "sackung/sackunglaw06.WorksAges", spec := "worksAges", unfollowed := true, recurses := true, plainKeys := false, apart := false }
def WorksAgesSaid : Prop := worksAgesRow.holds Try.pinned (OpenSpec.ofChange worksAgesSpec)

/-- ITS FALSE NEIGHBOUR: 'it returns false'. Refute it at one input. -/
def worksAgesWrong : ChangeSpec := { name := "worksAges", fn := fun _ => fun
  | [d1, d2, d3, d4] => { results := [.lit (.bool false)], args := [d1, d2, d3, d4] }
  | _ => none }
def WorksAgesWrongFalsely : Prop := worksAgesRow.holds Try.pinned (OpenSpec.ofChange worksAgesWrong)

/-- 'sackunglaw06.WorksMisses': WHATEVER THE INPUT: true; the input reads as it did. -/
def worksMissesSpec : ChangeSpec := { name := "worksMisses", fn := fun _ => fun
  | [d1, d2] => { results := [.lit (.bool true)], args := [d1, d2] }
  | _ => none }
def worksMissesRow : OpenClaim := { program := "ytpnpnfjhjjdmgaa", sum := "8b12b56fcbe8d2845b4b4042d407fa7bd22e37c1944b9730a0440b8b22448575", func := "sackung/sackunglaw06.WorksMisses", spec := "worksMisses", unfollowed := true, recurses := true, plainKeys := false, apart := false }
def WorksMissesSaid : Prop := worksMissesRow.holds Try.pinned (OpenSpec.ofChange worksMissesSpec)

/-- ITS FALSE NEIGHBOUR: 'it returns false'. Refute it at one input. -/
def worksMissesWrong : ChangeSpec := { name := "worksMisses", fn := fun _ => fun
  | [d1, d2] => { results := [.lit (.bool false)], args := [d1, d2] }
  | _ => none }
def WorksMissesWrongFalsely : Prop := worksMissesRow.holds Try.pinned (OpenSpec.ofChange worksMissesWrong)

/-- 'sackunglaw06.WorksTruth': WHATEVER THE INPUT: true; the input reads as it did. -/
def worksTruthSpec : ChangeSpec := { name := "worksTruth", fn := fun _ => fun
  | [d1, d2, d3, d4, d5] => { results := [.lit (.bool true)], args := [d1, d2, d3, d4, d5] }
  | _ => none }
def worksTruthRow : OpenClaim := { program := "ytpnpnfjhjjdmgaa", sum := "8b12b56fcbe8d2845b4b4042d407fa7bd22e37c1944b9730a0440b8b22448575", func := "sackung/sackunglaw06.WorksTruth", spec := "worksTruth", unfollowed := true, recurses := true, plainKeys := false, apart := false }
def WorksTruthSaid : Prop := worksTruthRow.holds Try.pinned (OpenSpec.ofChange worksTruthSpec)

/-- ITS FALSE NEIGHBOUR: 'it returns false'. Refute it at one input. -/
def worksTruthWrong : ChangeSpec := { name := "worksTruth", fn := fun _ => fun
  | [d1, d2, d3, d4, d5] => { results := [.lit (.bool false)], args := [d1, d2, d3, d4, d5] }
  | _ => none }
def WorksTruthWrongFalsely : Prop := worksTruthRow.holds Try.pinned (OpenSpec.ofChange worksTruthWrong)

/-- 'sackunglaw06.WorksCheap': WHATEVER THE INPUT: true; the input reads as it did. -/
def worksCheapSpec : ChangeSpec := { name := "worksCheap", fn := fun _ => fun
  | [d1, d2, d3, d4] => { results := [.lit (.bool true)], args := [d1, d2, d3, d4] }
  | _ => none }
def worksCheapRow : OpenClaim := { program := "ytpnpnfjhjjdmgaa", sum := "8b12b56fcbe8d2845b4b4042d407fa7bd22e37c1944b9730a0440b8b22448575", func := "sackung/sackunglaw06.WorksCheap", spec := "worksCheap", unfollowed := true, recurses := true, plainKeys := false, apart := false }
def WorksCheapSaid : Prop := worksCheapRow.holds Try.pinned (OpenSpec.ofChange worksCheapSpec)

/-- ITS FALSE NEIGHBOUR: 'it returns false'. Refute it at one input. -/
def worksCheapWrong : ChangeSpec := { name := "worksCheap", fn := fun _ => fun
  | [d1, d2, d3, d4] => { results := [.lit (.bool false)], args := [d1, d2, d3, d4] }
  | _ => none }
def WorksCheapWrongFalsely : Prop := worksCheapRow.holds Try.pinned (OpenSpec.ofChange worksCheapWrong)

/-- 'sackunglaw06.WorksWithout': WHATEVER THE INPUT: true; the input reads as it did. -/
def worksWithoutSpec : ChangeSpec := { name := "worksWithout", fn := fun _ => fun
  | [d1, d2] => { results := [.lit (.bool true)], args := [d1, d2] }
  | _ => none }
def worksWithoutRow : OpenClaim := { program := "ytpnpnfjhjjdmgaa", sum := "8b12b56fcbe8d2845b4b4042d407fa7bd22e37c1944b9730a0440b8b22448575", func := "sackung/sackunglaw06.WorksWithout", spec := "worksWithout", unfollowed := true, recurses := true, plainKeys := false, apart := false }
def WorksWithoutSaid : Prop := worksWithoutRow.holds Try.pinned (OpenSpec.ofChange worksWithoutSpec)

/-- ITS FALSE NEIGHBOUR: 'it returns false'. Refute it at one input. -/
def worksWithoutWrong : ChangeSpec := { name := "worksWithout", fn := fun _ => fun
  | [d1, d2] => { results := [.lit (.bool false)], args := [d1, d2] }
  | _ => none }
def WorksWithoutWrongFalsely : Prop := worksWithoutRow.holds Try.pinned (OpenSpec.ofChange worksWithoutWrong)

/-- 'sackunglaw06.WorksCourts': WHATEVER THE INPUT: true; the input reads as it did. -/
def worksCourtsSpec : ChangeSpec := { name := "worksCourts", fn := fun _ => fun
  | [d] => { results := [.lit (.bool true)], args := [d] }
  | _ => none }
def worksCourtsRow : OpenClaim := { program := "ytpnpnfjhjjdmgaa", sum := "8b12b56fcbe8d2845b4b4042d407fa7bd22e37c1944b9730a0440b8b22448575", func := "sackung/sackunglaw06.WorksCourts", spec := "worksCourts", unfollowed := true, recurses := true, plainKeys := false, apart := false }
def WorksCourtsSaid : Prop := worksCourtsRow.holds Try.pinned (OpenSpec.ofChange worksCourtsSpec)

/-- ITS FALSE NEIGHBOUR: 'it returns false'. Refute it at one input. -/
def worksCourtsWrong : ChangeSpec := { name := "worksCourts", fn := fun _ => fun
  | [d] => { results := [.lit (.bool false)], args := [d] }
  | _ => none }
def WorksCourtsWrongFalsely : Prop := worksCourtsRow.holds Try.pinned (OpenSpec.ofChange worksCourtsWrong)

/-- 'sackunglaw06.WorksVillages': WHATEVER THE INPUT: true; the input reads as it did. -/
def worksVillagesSpec : ChangeSpec := { name := "worksVillages", fn := fun _ => fun
  | [d1, d2] => { results := [.lit (.bool true)], args := [d1, d2] }
  | _ => none }
def worksVillagesRow : OpenClaim := { program := "ytpnpnfjhjjdmgaa", sum := "8b12b56fcbe8d2845b4b4042d407fa7bd22e37c1944b9730a0440b8b22448575", func := "sackung/sackunglaw06.WorksVillages", spec := "worksVillages", unfollowed := true, recurses := true, plainKeys := false, apart := false }
def WorksVillagesSaid : Prop := worksVillagesRow.holds Try.pinned (OpenSpec.ofChange worksVillagesSpec)

/-- ITS FALSE NEIGHBOUR: 'it returns false'. Refute it at one input. -/
def worksVillagesWrong : ChangeSpec := { name := "worksVillages", fn := fun _ => fun
  | [d1, d2] => { results := [.lit (.bool false)], args := [d1, d2] }
  | _ => none }
def WorksVillagesWrongFalsely : Prop := worksVillagesRow.holds Try.pinned (OpenSpec.ofChange worksVillagesWrong)

/-- 'sackunglaw06.WorksNames': WHATEVER THE INPUT: true; the input reads as it did. -/
def worksNamesSpec : ChangeSpec := { name := "worksNames", fn := fun _ => fun
  | [] => { results := [.lit (.bool true)], args := [] }
  | _ => none }
def worksNamesRow : OpenClaim := { program := "ytpnpnfjhjjdmgaa", sum := "8b12b56fcbe8d2845b4b4042d407fa7bd22e37c1944b9730a0440b8b22448575", func := "sackung/sackunglaw06.WorksNames", spec := "worksNames", unfollowed := true, recurses := true, plainKeys := false, apart := false }
def WorksNamesSaid : Prop := worksNamesRow.holds Try.pinned (OpenSpec.ofChange worksNamesSpec)

/-- ITS FALSE NEIGHBOUR: 'it returns false'. Refute it at one input. -/
def worksNamesWrong : ChangeSpec := { name := "worksNames", fn := fun _ => fun
  | [] => { results := [.lit (.bool false)], args := [] }
  | _ => none }
def WorksNamesWrongFalsely : Prop := worksNamesRow.holds Try.pinned (OpenSpec.ofChange worksNamesWrong)

/- THE SECOND FORM. 'bulk': how many values and letters a reading holds, each counted each time it is reached (what is shared counts as often as it is met; a slice's spare places count too). A statement '..UptoSaid' is the law's where the arguments, and the package variables that the reading takes, are together of bulk at most 1048576: NARROWER than '..Said'. Prove '..Said' where nothing that the law and all that it calls make is longer than what came in: it says more and counts as full. Else prove '..UptoSaid'. A law counts once. -/
mutual
def uptoBulk {H : Type} : DataW H → Nat
  | .lit (.string bytes) => bytes.length + 1
  | .lit _ => 1
  | .nil => 1
  | .ptr d => uptoBulk d + 1
  | .slice elems spare => uptoBulkAll elems + uptoBulkAll spare + 1
  | .agg parts => uptoBulkAll parts + 1
  | .iface _ d => uptoBulk d + 1
  | .map entries => uptoBulkEntries entries + 1
  | .held _ => 1
def uptoBulkAll {H : Type} : List (DataW H) → Nat
  | [] => 0
  | d :: r => uptoBulk d + uptoBulkAll r
def uptoBulkEntries {H : Type} : List (Lit × DataW H) → Nat
  | [] => 0
  | x :: r => uptoBulkEntry x + uptoBulkEntries r
def uptoBulkEntry {H : Type} : Lit × DataW H → Nat
  | (.string bytes, d) => bytes.length + uptoBulk d + 1
  | (_, d) => uptoBulk d + 1
 end
def uptoSmall : (H : Type) → List (DataW H) → Bool := fun _ ds => decide (uptoBulkAll ds ≤ 1048576)
def OpenSpec.upto (s : _root_.Go.ChangeSpec) : _root_.Go.OpenSpec := { _root_.Go.OpenSpec.ofChange s with cond := some uptoSmall }

/-- 'sackunglaw06.WorksAdds', WHERE WHAT IT READS IS OF BULK AT MOST 1048576: true; the input reads as it did. -/
def worksAddsUptoRow : OpenClaim := { program := "ytpnpnfjhjjdmgaa", sum := "8b12b56fcbe8d2845b4b4042d407fa7bd22e37c1944b9730a0440b8b22448575", func := "sackung/sackunglaw06.WorksAdds", spec := "worksAdds", unfollowed := true, recurses := true, plainKeys := false, apart := false, narrowed := true }
def WorksAddsUptoSaid : Prop := worksAddsUptoRow.holds Try.pinned (OpenSpec.upto worksAddsSpec)

/-- 'sackunglaw06.WorksBests', WHERE WHAT IT READS IS OF BULK AT MOST 1048576: true; the input reads as it did. -/
def worksBestsUptoRow : OpenClaim := { program := "ytpnpnfjhjjdmgaa", sum := "8b12b56fcbe8d2845b4b4042d407fa7bd22e37c1944b9730a0440b8b22448575", func := "sackung/sackunglaw06.WorksBests", spec := "worksBests", unfollowed := true, recurses := true, plainKeys := false, apart := false, narrowed := true }
def WorksBestsUptoSaid : Prop := worksBestsUptoRow.holds Try.pinned (OpenSpec.upto worksBestsSpec)

/-- 'sackunglaw06.WorksProofs', WHERE WHAT IT READS IS OF BULK AT MOST 1048576: true; the input reads as it did. -/
def worksProofsUptoRow : OpenClaim := { program := "ytpnpnfjhjjdmgaa", sum := "8b12b56fcbe8d2845b4b4042d407fa7bd22e37c1944b9730a0440b8b22448575", func := "sackung/sackunglaw06.WorksProofs", spec := "worksProofs", unfollowed := true, recurses := true, plainKeys := false, apart := false, narrowed := true }
def WorksProofsUptoSaid : Prop := worksProofsUptoRow.holds Try.pinned (OpenSpec.upto worksProofsSpec)

/-- 'sackunglaw06.WorksNeeds', WHERE WHAT IT READS IS OF BULK AT MOST 1048576: true; the input reads as it did. -/
def worksNeedsUptoRow : OpenClaim := { program := "ytpnpnfjhjjdmgaa", sum := "8b12b56fcbe8d2845b4b4042d407fa7bd22e37c1944b9730a0440b8b22448575", func := "sackung/sackunglaw06.WorksNeeds", spec := "worksNeeds", unfollowed := true, recurses := true, plainKeys := false, apart := false, narrowed := true }
def WorksNeedsUptoSaid : Prop := worksNeedsUptoRow.holds Try.pinned (OpenSpec.upto worksNeedsSpec)

/-- 'sackunglaw06.WorksMore', WHERE WHAT IT READS IS OF BULK AT MOST 1048576: true; the input reads as it did. -/
def worksMoreUptoRow : OpenClaim := { program := "ytpnpnfjhjjdmgaa", sum := "8b12b56fcbe8d2845b4b4042d407fa7bd22e37c1944b9730a0440b8b22448575", func := "sackung/sackunglaw06.WorksMore", spec := "worksMore", unfollowed := true, recurses := true, plainKeys := false, apart := false, narrowed := true }
def WorksMoreUptoSaid : Prop := worksMoreUptoRow.holds Try.pinned (OpenSpec.upto worksMoreSpec)

/-- 'sackunglaw06.WorksAges', WHERE WHAT IT READS IS OF BULK AT MOST 1048576: true; the input reads as it did. -/
def worksAgesUptoRow : OpenClaim := { program := "ytpnpnfjhjjdmgaa", sum := "8b12b56fcbe8d2845b4b4042d407fa7bd22e37c1944b9730a0440b8b22448575", func := "sackung/sackunglaw06.WorksAges", spec := "worksAges", unfollowed := true, recurses := true, plainKeys := false, apart := false, narrowed := true }
def WorksAgesUptoSaid : Prop := worksAgesUptoRow.holds Try.pinned (OpenSpec.upto worksAgesSpec)

/-- 'sackunglaw06.WorksMisses', WHERE WHAT IT READS IS OF BULK AT MOST 1048576: true; the input reads as it did. -/
def worksMissesUptoRow : OpenClaim := { program := "ytpnpnfjhjjdmgaa", sum := "8b12b56fcbe8d2845b4b4042d407fa7bd22e37c1944b9730a0440b8b22448575", func := "sackung/sackunglaw06.WorksMisses", spec := "worksMisses", unfollowed := true, recurses := true, plainKeys := false, apart := false, narrowed := true }
def WorksMissesUptoSaid : Prop := worksMissesUptoRow.holds Try.pinned (OpenSpec.upto worksMissesSpec)

/-- 'sackunglaw06.WorksTruth', WHERE WHAT IT READS IS OF BULK AT MOST 1048576: true; the input reads as it did. -/
def worksTruthUptoRow : OpenClaim := { program := "ytpnpnfjhjjdmgaa", sum := "8b12b56fcbe8d2845b4b4042d407fa7bd22e37c1944b9730a0440b8b22448575", func := "sackung/sackunglaw06.WorksTruth", spec := "worksTruth", unfollowed := true, recurses := true, plainKeys := false, apart := false, narrowed := true }
def WorksTruthUptoSaid : Prop := worksTruthUptoRow.holds Try.pinned (OpenSpec.upto worksTruthSpec)

/-- 'sackunglaw06.WorksCheap', WHERE WHAT IT READS IS OF BULK AT MOST 1048576: true; the input reads as it did. -/
def worksCheapUptoRow : OpenClaim := { program := "ytpnpnfjhjjdmgaa", sum := "8b12b56fcbe8d2845b4b4042d407fa7bd22e37c1944b9730a0440b8b22448575", func := "sackung/sackunglaw06.WorksCheap", spec := "worksCheap", unfollowed := true, recurses := true, plainKeys := false, apart := false, narrowed := true }
def WorksCheapUptoSaid : Prop := worksCheapUptoRow.holds Try.pinned (OpenSpec.upto worksCheapSpec)

/-- 'sackunglaw06.WorksWithout', WHERE WHAT IT READS IS OF BULK AT MOST 1048576: true; the input reads as it did. -/
def worksWithoutUptoRow : OpenClaim := { program := "ytpnpnfjhjjdmgaa", sum := "8b12b56fcbe8d2845b4b4042d407fa7bd22e37c1944b9730a0440b8b22448575", func := "sackung/sackunglaw06.WorksWithout", spec := "worksWithout", unfollowed := true, recurses := true, plainKeys := false, apart := false, narrowed := true }
def WorksWithoutUptoSaid : Prop := worksWithoutUptoRow.holds Try.pinned (OpenSpec.upto worksWithoutSpec)

/-- 'sackunglaw06.WorksCourts', WHERE WHAT IT READS IS OF BULK AT MOST 1048576: true; the input reads as it did. -/
def worksCourtsUptoRow : OpenClaim := { program := "ytpnpnfjhjjdmgaa", sum := "8b12b56fcbe8d2845b4b4042d407fa7bd22e37c1944b9730a0440b8b22448575", func := "sackung/sackunglaw06.WorksCourts", spec := "worksCourts", unfollowed := true, recurses := true, plainKeys := false, apart := false, narrowed := true }
def WorksCourtsUptoSaid : Prop := worksCourtsUptoRow.holds Try.pinned (OpenSpec.upto worksCourtsSpec)

/-- 'sackunglaw06.WorksVillages', WHERE WHAT IT READS IS OF BULK AT MOST 1048576: true; the input reads as it did. -/
def worksVillagesUptoRow : OpenClaim := { program := "ytpnpnfjhjjdmgaa", sum := "8b12b56fcbe8d2845b4b4042d407fa7bd22e37c1944b9730a0440b8b22448575", func := "sackung/sackunglaw06.WorksVillages", spec := "worksVillages", unfollowed := true, recurses := true, plainKeys := false, apart := false, narrowed := true }
def WorksVillagesUptoSaid : Prop := worksVillagesUptoRow.holds Try.pinned (OpenSpec.upto worksVillagesSpec)

/-- 'sackunglaw06.WorksNames', WHERE WHAT IT READS IS OF BULK AT MOST 1048576: true; the input reads as it did. -/
def worksNamesUptoRow : OpenClaim := { program := "ytpnpnfjhjjdmgaa", sum := "8b12b56fcbe8d2845b4b4042d407fa7bd22e37c1944b9730a0440b8b22448575", func := "sackung/sackunglaw06.WorksNames", spec := "worksNames", unfollowed := true, recurses := true, plainKeys := false, apart := false, narrowed := true }
def WorksNamesUptoSaid : Prop := worksNamesUptoRow.holds Try.pinned (OpenSpec.upto worksNamesSpec)

end Rows
end Go.Proofs.Ytpnpnfjhjjdmgaa
