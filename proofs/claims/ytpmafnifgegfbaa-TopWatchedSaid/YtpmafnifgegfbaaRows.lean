/-
  No cell of these rows narrows 'for every input' (looked for: loops, veiled, ifaces, maps, wideKeys, modest, calm, conditions, laid).
  DERIVED. THE GIVEN ROWS OF THIS SEAT. 14 by the template 'for every input the law returns true; each argument reads behind the call as it read before'; 0 by the template 'total and deterministic' (their statements: YtpmafnifgegfbaaTotals.lean).
  GIVEN WITH THE SEED: the statements are not yours to turn. If you find one false, say at which input.
  Laid BY PROGRAM, IN A SANDBOX (cutbox-rows.mjs): the forced cells as the released guide's own fill.sh prints them over the translation 896055ec2112ffba… (all of the seat's roots in one cut). By AI agents, Wed Nov 11 2026. No macro, syntax, notation, axiom, sorry.
-/
import Derived.Test.YtpmafnifgegfbaaChecked
import GoSem.Claim
import GoSem.ClaimJoined
import GoSem.ClaimMapViews
import Derived.JoinedTies
import Derived.KernelRfl
namespace Go.Proofs.Ytpmafnifgegfbaa
/- THE CELL 'sum', in the pinned program and in every row, IS THE sha256 OF THE DUMP (.gsa) THAT YtpmafnifgegfbaaProg.lean LOADS. Nothing in Lean hashes anything: it is a label: what it is worth is what the hold of that sum in a sandbox is worth. -/
noncomputable def Try.pinned : Pinned := { name := "ytpmafnifgegfbaa", sum := "896055ec2112ffba632b273f21fe9e104e976230ee08df47250c9dfba201c398", checked := Try.checked }
namespace Rows
def none {H : Type} : Left H := { results := [], args := [] }

/-- 'sackungtop.TopWatched': WHATEVER THE INPUT: true; the input reads as it did. -/
def topWatchedSpec : ChangeSpec := { name := "topWatched", fn := fun _ => fun
  | [d1, d2, d3, d4, d5] => { results := [.lit (.bool true)], args := [d1, d2, d3, d4, d5] }
  | _ => none }
def topWatchedRow : OpenClaim := { program := "ytpmafnifgegfbaa", sum := "896055ec2112ffba632b273f21fe9e104e976230ee08df47250c9dfba201c398", func := "sackung/sackungtop.TopWatched", spec := "topWatched", unfollowed := true, recurses := true, plainKeys := false, apart := false }
def TopWatchedSaid : Prop := topWatchedRow.holds Try.pinned (OpenSpec.ofChange topWatchedSpec)

/-- ITS FALSE NEIGHBOUR: 'it returns false'. Refute it at one input. -/
def topWatchedWrong : ChangeSpec := { name := "topWatched", fn := fun _ => fun
  | [d1, d2, d3, d4, d5] => { results := [.lit (.bool false)], args := [d1, d2, d3, d4, d5] }
  | _ => none }
def TopWatchedWrongFalsely : Prop := topWatchedRow.holds Try.pinned (OpenSpec.ofChange topWatchedWrong)

/-- 'sackunglaw03.RadarTurns': WHATEVER THE INPUT: true; the input reads as it did. -/
def radarTurnsSpec : ChangeSpec := { name := "radarTurns", fn := fun _ => fun
  | [d] => { results := [.lit (.bool true)], args := [d] }
  | _ => none }
def radarTurnsRow : OpenClaim := { program := "ytpmafnifgegfbaa", sum := "896055ec2112ffba632b273f21fe9e104e976230ee08df47250c9dfba201c398", func := "sackung/sackunglaw03.RadarTurns", spec := "radarTurns", unfollowed := true, recurses := true, plainKeys := false, apart := false }
def RadarTurnsSaid : Prop := radarTurnsRow.holds Try.pinned (OpenSpec.ofChange radarTurnsSpec)

/-- ITS FALSE NEIGHBOUR: 'it returns false'. Refute it at one input. -/
def radarTurnsWrong : ChangeSpec := { name := "radarTurns", fn := fun _ => fun
  | [d] => { results := [.lit (.bool false)], args := [d] }
  | _ => none }
def RadarTurnsWrongFalsely : Prop := radarTurnsRow.holds Try.pinned (OpenSpec.ofChange radarTurnsWrong)

/-- 'sackunglaw03.RadarEnds': WHATEVER THE INPUT: true; the input reads as it did. -/
def radarEndsSpec : ChangeSpec := { name := "radarEnds", fn := fun _ => fun
  | [d1, d2] => { results := [.lit (.bool true)], args := [d1, d2] }
  | _ => none }
def radarEndsRow : OpenClaim := { program := "ytpmafnifgegfbaa", sum := "896055ec2112ffba632b273f21fe9e104e976230ee08df47250c9dfba201c398", func := "sackung/sackunglaw03.RadarEnds", spec := "radarEnds", unfollowed := true, recurses := true, plainKeys := false, apart := false }
def RadarEndsSaid : Prop := radarEndsRow.holds Try.pinned (OpenSpec.ofChange radarEndsSpec)

/-- ITS FALSE NEIGHBOUR: 'it returns false'. Refute it at one input. -/
def radarEndsWrong : ChangeSpec := { name := "radarEnds", fn := fun _ => fun
  | [d1, d2] => { results := [.lit (.bool false)], args := [d1, d2] }
  | _ => none }
def RadarEndsWrongFalsely : Prop := radarEndsRow.holds Try.pinned (OpenSpec.ofChange radarEndsWrong)

/-- 'sackunglaw03.RadarLists': WHATEVER THE INPUT: true; the input reads as it did. -/
def radarListsSpec : ChangeSpec := { name := "radarLists", fn := fun _ => fun
  | [d1, d2, d3] => { results := [.lit (.bool true)], args := [d1, d2, d3] }
  | _ => none }
def radarListsRow : OpenClaim := { program := "ytpmafnifgegfbaa", sum := "896055ec2112ffba632b273f21fe9e104e976230ee08df47250c9dfba201c398", func := "sackung/sackunglaw03.RadarLists", spec := "radarLists", unfollowed := true, recurses := true, plainKeys := false, apart := false }
def RadarListsSaid : Prop := radarListsRow.holds Try.pinned (OpenSpec.ofChange radarListsSpec)

/-- ITS FALSE NEIGHBOUR: 'it returns false'. Refute it at one input. -/
def radarListsWrong : ChangeSpec := { name := "radarLists", fn := fun _ => fun
  | [d1, d2, d3] => { results := [.lit (.bool false)], args := [d1, d2, d3] }
  | _ => none }
def RadarListsWrongFalsely : Prop := radarListsRow.holds Try.pinned (OpenSpec.ofChange radarListsWrong)

/-- 'sackunglaw03.RadarMore': WHATEVER THE INPUT: true; the input reads as it did. -/
def radarMoreSpec : ChangeSpec := { name := "radarMore", fn := fun _ => fun
  | [d1, d2, d3, d4, d5, d6] => { results := [.lit (.bool true)], args := [d1, d2, d3, d4, d5, d6] }
  | _ => none }
def radarMoreRow : OpenClaim := { program := "ytpmafnifgegfbaa", sum := "896055ec2112ffba632b273f21fe9e104e976230ee08df47250c9dfba201c398", func := "sackung/sackunglaw03.RadarMore", spec := "radarMore", unfollowed := true, recurses := true, plainKeys := false, apart := false }
def RadarMoreSaid : Prop := radarMoreRow.holds Try.pinned (OpenSpec.ofChange radarMoreSpec)

/-- ITS FALSE NEIGHBOUR: 'it returns false'. Refute it at one input. -/
def radarMoreWrong : ChangeSpec := { name := "radarMore", fn := fun _ => fun
  | [d1, d2, d3, d4, d5, d6] => { results := [.lit (.bool false)], args := [d1, d2, d3, d4, d5, d6] }
  | _ => none }
def RadarMoreWrongFalsely : Prop := radarMoreRow.holds Try.pinned (OpenSpec.ofChange radarMoreWrong)

/-- 'sackunglaw03.RadarWhole': WHATEVER THE INPUT: true; the input reads as it did. -/
def radarWholeSpec : ChangeSpec := { name := "radarWhole", fn := fun _ => fun
  | [d1, d2] => { results := [.lit (.bool true)], args := [d1, d2] }
  | _ => none }
def radarWholeRow : OpenClaim := { program := "ytpmafnifgegfbaa", sum := "896055ec2112ffba632b273f21fe9e104e976230ee08df47250c9dfba201c398", func := "sackung/sackunglaw03.RadarWhole", spec := "radarWhole", unfollowed := true, recurses := true, plainKeys := false, apart := false }
def RadarWholeSaid : Prop := radarWholeRow.holds Try.pinned (OpenSpec.ofChange radarWholeSpec)

/-- ITS FALSE NEIGHBOUR: 'it returns false'. Refute it at one input. -/
def radarWholeWrong : ChangeSpec := { name := "radarWhole", fn := fun _ => fun
  | [d1, d2] => { results := [.lit (.bool false)], args := [d1, d2] }
  | _ => none }
def RadarWholeWrongFalsely : Prop := radarWholeRow.holds Try.pinned (OpenSpec.ofChange radarWholeWrong)

/-- 'sackunglaw03.RadarLearns': WHATEVER THE INPUT: true; the input reads as it did. -/
def radarLearnsSpec : ChangeSpec := { name := "radarLearns", fn := fun _ => fun
  | [d] => { results := [.lit (.bool true)], args := [d] }
  | _ => none }
def radarLearnsRow : OpenClaim := { program := "ytpmafnifgegfbaa", sum := "896055ec2112ffba632b273f21fe9e104e976230ee08df47250c9dfba201c398", func := "sackung/sackunglaw03.RadarLearns", spec := "radarLearns", unfollowed := true, recurses := true, plainKeys := false, apart := false }
def RadarLearnsSaid : Prop := radarLearnsRow.holds Try.pinned (OpenSpec.ofChange radarLearnsSpec)

/-- ITS FALSE NEIGHBOUR: 'it returns false'. Refute it at one input. -/
def radarLearnsWrong : ChangeSpec := { name := "radarLearns", fn := fun _ => fun
  | [d] => { results := [.lit (.bool false)], args := [d] }
  | _ => none }
def RadarLearnsWrongFalsely : Prop := radarLearnsRow.holds Try.pinned (OpenSpec.ofChange radarLearnsWrong)

/-- 'sackunglaw03.RadarProves': WHATEVER THE INPUT: true; the input reads as it did. -/
def radarProvesSpec : ChangeSpec := { name := "radarProves", fn := fun _ => fun
  | [d1, d2] => { results := [.lit (.bool true)], args := [d1, d2] }
  | _ => none }
def radarProvesRow : OpenClaim := { program := "ytpmafnifgegfbaa", sum := "896055ec2112ffba632b273f21fe9e104e976230ee08df47250c9dfba201c398", func := "sackung/sackunglaw03.RadarProves", spec := "radarProves", unfollowed := true, recurses := true, plainKeys := false, apart := false }
def RadarProvesSaid : Prop := radarProvesRow.holds Try.pinned (OpenSpec.ofChange radarProvesSpec)

/-- ITS FALSE NEIGHBOUR: 'it returns false'. Refute it at one input. -/
def radarProvesWrong : ChangeSpec := { name := "radarProves", fn := fun _ => fun
  | [d1, d2] => { results := [.lit (.bool false)], args := [d1, d2] }
  | _ => none }
def RadarProvesWrongFalsely : Prop := radarProvesRow.holds Try.pinned (OpenSpec.ofChange radarProvesWrong)

/-- 'sackunglaw03.RadarTruth': WHATEVER THE INPUT: true; the input reads as it did. -/
def radarTruthSpec : ChangeSpec := { name := "radarTruth", fn := fun _ => fun
  | [d1, d2] => { results := [.lit (.bool true)], args := [d1, d2] }
  | _ => none }
def radarTruthRow : OpenClaim := { program := "ytpmafnifgegfbaa", sum := "896055ec2112ffba632b273f21fe9e104e976230ee08df47250c9dfba201c398", func := "sackung/sackunglaw03.RadarTruth", spec := "radarTruth", unfollowed := true, recurses := true, plainKeys := false, apart := false }
def RadarTruthSaid : Prop := radarTruthRow.holds Try.pinned (OpenSpec.ofChange radarTruthSpec)

/-- ITS FALSE NEIGHBOUR: 'it returns false'. Refute it at one input. -/
def radarTruthWrong : ChangeSpec := { name := "radarTruth", fn := fun _ => fun
  | [d1, d2] => { results := [.lit (.bool false)], args := [d1, d2] }
  | _ => none }
def RadarTruthWrongFalsely : Prop := radarTruthRow.holds Try.pinned (OpenSpec.ofChange radarTruthWrong)

/-- 'sackunglaw03.RadarBlames': WHATEVER THE INPUT: true; the input reads as it did. -/
def radarBlamesSpec : ChangeSpec := { name := "radarBlames", fn := fun _ => fun
  | [d] => { results := [.lit (.bool true)], args := [d] }
  | _ => none }
def radarBlamesRow : OpenClaim := { program := "ytpmafnifgegfbaa", sum := "896055ec2112ffba632b273f21fe9e104e976230ee08df47250c9dfba201c398", func := "sackung/sackunglaw03.RadarBlames", spec := "radarBlames", unfollowed := true, recurses := true, plainKeys := false, apart := false }
def RadarBlamesSaid : Prop := radarBlamesRow.holds Try.pinned (OpenSpec.ofChange radarBlamesSpec)

/-- ITS FALSE NEIGHBOUR: 'it returns false'. Refute it at one input. -/
def radarBlamesWrong : ChangeSpec := { name := "radarBlames", fn := fun _ => fun
  | [d] => { results := [.lit (.bool false)], args := [d] }
  | _ => none }
def RadarBlamesWrongFalsely : Prop := radarBlamesRow.holds Try.pinned (OpenSpec.ofChange radarBlamesWrong)

/-- 'sackunglaw03.RadarFailed': WHATEVER THE INPUT: true; the input reads as it did. -/
def radarFailedSpec : ChangeSpec := { name := "radarFailed", fn := fun _ => fun
  | [d1, d2, d3, d4] => { results := [.lit (.bool true)], args := [d1, d2, d3, d4] }
  | _ => none }
def radarFailedRow : OpenClaim := { program := "ytpmafnifgegfbaa", sum := "896055ec2112ffba632b273f21fe9e104e976230ee08df47250c9dfba201c398", func := "sackung/sackunglaw03.RadarFailed", spec := "radarFailed", unfollowed := true, recurses := true, plainKeys := false, apart := false }
def RadarFailedSaid : Prop := radarFailedRow.holds Try.pinned (OpenSpec.ofChange radarFailedSpec)

/-- ITS FALSE NEIGHBOUR: 'it returns false'. Refute it at one input. -/
def radarFailedWrong : ChangeSpec := { name := "radarFailed", fn := fun _ => fun
  | [d1, d2, d3, d4] => { results := [.lit (.bool false)], args := [d1, d2, d3, d4] }
  | _ => none }
def RadarFailedWrongFalsely : Prop := radarFailedRow.holds Try.pinned (OpenSpec.ofChange radarFailedWrong)

/-- 'sackunglaw03.RadarStakes': WHATEVER THE INPUT: true; the input reads as it did. -/
def radarStakesSpec : ChangeSpec := { name := "radarStakes", fn := fun _ => fun
  | [d1, d2] => { results := [.lit (.bool true)], args := [d1, d2] }
  | _ => none }
def radarStakesRow : OpenClaim := { program := "ytpmafnifgegfbaa", sum := "896055ec2112ffba632b273f21fe9e104e976230ee08df47250c9dfba201c398", func := "sackung/sackunglaw03.RadarStakes", spec := "radarStakes", unfollowed := true, recurses := true, plainKeys := false, apart := false }
def RadarStakesSaid : Prop := radarStakesRow.holds Try.pinned (OpenSpec.ofChange radarStakesSpec)

/-- ITS FALSE NEIGHBOUR: 'it returns false'. Refute it at one input. -/
def radarStakesWrong : ChangeSpec := { name := "radarStakes", fn := fun _ => fun
  | [d1, d2] => { results := [.lit (.bool false)], args := [d1, d2] }
  | _ => none }
def RadarStakesWrongFalsely : Prop := radarStakesRow.holds Try.pinned (OpenSpec.ofChange radarStakesWrong)

/-- 'sackunglaw03.RadarBest': WHATEVER THE INPUT: true; the input reads as it did. -/
def radarBestSpec : ChangeSpec := { name := "radarBest", fn := fun _ => fun
  | [d1, d2, d3, d4] => { results := [.lit (.bool true)], args := [d1, d2, d3, d4] }
  | _ => none }
def radarBestRow : OpenClaim := { program := "ytpmafnifgegfbaa", sum := "896055ec2112ffba632b273f21fe9e104e976230ee08df47250c9dfba201c398", func := "sackung/sackunglaw03.RadarBest", spec := "radarBest", unfollowed := true, recurses := true, plainKeys := false, apart := false }
def RadarBestSaid : Prop := radarBestRow.holds Try.pinned (OpenSpec.ofChange radarBestSpec)

/-- ITS FALSE NEIGHBOUR: 'it returns false'. Refute it at one input. -/
def radarBestWrong : ChangeSpec := { name := "radarBest", fn := fun _ => fun
  | [d1, d2, d3, d4] => { results := [.lit (.bool false)], args := [d1, d2, d3, d4] }
  | _ => none }
def RadarBestWrongFalsely : Prop := radarBestRow.holds Try.pinned (OpenSpec.ofChange radarBestWrong)

/-- 'sackunglaw03.RadarNames': WHATEVER THE INPUT: true; the input reads as it did. -/
def radarNamesSpec : ChangeSpec := { name := "radarNames", fn := fun _ => fun
  | [] => { results := [.lit (.bool true)], args := [] }
  | _ => none }
def radarNamesRow : OpenClaim := { program := "ytpmafnifgegfbaa", sum := "896055ec2112ffba632b273f21fe9e104e976230ee08df47250c9dfba201c398", func := "sackung/sackunglaw03.RadarNames", spec := "radarNames", unfollowed := true, recurses := true, plainKeys := false, apart := false }
def RadarNamesSaid : Prop := radarNamesRow.holds Try.pinned (OpenSpec.ofChange radarNamesSpec)

/-- ITS FALSE NEIGHBOUR: 'it returns false'. Refute it at one input. -/
def radarNamesWrong : ChangeSpec := { name := "radarNames", fn := fun _ => fun
  | [] => { results := [.lit (.bool false)], args := [] }
  | _ => none }
def RadarNamesWrongFalsely : Prop := radarNamesRow.holds Try.pinned (OpenSpec.ofChange radarNamesWrong)

/- THE SECOND FORM. 'bulk': how many values and letters a reading holds, each counted each time it is reached (what is shared counts as often as it is met; a slice's spare places count too). A statement '..UptoSaid' is the law's where the arguments, and the package variables that the reading takes, are together of bulk at most 1048576: NARROWER than '..Said'. Prove '..Said' where nothing that the law and all that it calls make is longer than what came in: it says more and counts as full. Else prove '..UptoSaid'. A law counts once. -/
mutual
def uptoBulk {H : Type} : DataW H → Nat
  | .lit (.string bytes) => bytes.length + 1
  | .lit _ => 1
  | .nil => 1
  | .ptr d => uptoBulk d + 1
  | .slice elems spare => uptoBulkAll elems + uptoBulkAll spare + 1
  | .agg parts => uptoBulkAll parts + 1
  | .iface _ d => uptoBulk d + 1
  | .map entries => uptoBulkEntries entries + 1
  | .held _ => 1
def uptoBulkAll {H : Type} : List (DataW H) → Nat
  | [] => 0
  | d :: r => uptoBulk d + uptoBulkAll r
def uptoBulkEntries {H : Type} : List (Lit × DataW H) → Nat
  | [] => 0
  | x :: r => uptoBulkEntry x + uptoBulkEntries r
def uptoBulkEntry {H : Type} : Lit × DataW H → Nat
  | (.string bytes, d) => bytes.length + uptoBulk d + 1
  | (_, d) => uptoBulk d + 1
 end
def uptoSmall : (H : Type) → List (DataW H) → Bool := fun _ ds => decide (uptoBulkAll ds ≤ 1048576)
def OpenSpec.upto (s : _root_.Go.ChangeSpec) : _root_.Go.OpenSpec := { _root_.Go.OpenSpec.ofChange s with cond := some uptoSmall }

/-- 'sackungtop.TopWatched', WHERE WHAT IT READS IS OF BULK AT MOST 1048576: true; the input reads as it did. -/
def topWatchedUptoRow : OpenClaim := { program := "ytpmafnifgegfbaa", sum := "896055ec2112ffba632b273f21fe9e104e976230ee08df47250c9dfba201c398", func := "sackung/sackungtop.TopWatched", spec := "topWatched", unfollowed := true, recurses := true, plainKeys := false, apart := false, narrowed := true }
def TopWatchedUptoSaid : Prop := topWatchedUptoRow.holds Try.pinned (OpenSpec.upto topWatchedSpec)

/-- 'sackunglaw03.RadarTurns', WHERE WHAT IT READS IS OF BULK AT MOST 1048576: true; the input reads as it did. -/
def radarTurnsUptoRow : OpenClaim := { program := "ytpmafnifgegfbaa", sum := "896055ec2112ffba632b273f21fe9e104e976230ee08df47250c9dfba201c398", func := "sackung/sackunglaw03.RadarTurns", spec := "radarTurns", unfollowed := true, recurses := true, plainKeys := false, apart := false, narrowed := true }
def RadarTurnsUptoSaid : Prop := radarTurnsUptoRow.holds Try.pinned (OpenSpec.upto radarTurnsSpec)

/-- 'sackunglaw03.RadarEnds', WHERE WHAT IT READS IS OF BULK AT MOST 1048576: true; the input reads as it did. -/
def radarEndsUptoRow : OpenClaim := { program := "ytpmafnifgegfbaa", sum := "896055ec2112ffba632b273f21fe9e104e976230ee08df47250c9dfba201c398", func := "sackung/sackunglaw03.RadarEnds", spec := "radarEnds", unfollowed := true, recurses := true, plainKeys := false, apart := false, narrowed := true }
def RadarEndsUptoSaid : Prop := radarEndsUptoRow.holds Try.pinned (OpenSpec.upto radarEndsSpec)

/-- 'sackunglaw03.RadarLists', WHERE WHAT IT READS IS OF BULK AT MOST 1048576: true; the input reads as it did. -/
def radarListsUptoRow : OpenClaim := { program := "ytpmafnifgegfbaa", sum := "896055ec2112ffba632b273f21fe9e104e976230ee08df47250c9dfba201c398", func := "sackung/sackunglaw03.RadarLists", spec := "radarLists", unfollowed := true, recurses := true, plainKeys := false, apart := false, narrowed := true }
def RadarListsUptoSaid : Prop := radarListsUptoRow.holds Try.pinned (OpenSpec.upto radarListsSpec)

/-- 'sackunglaw03.RadarMore', WHERE WHAT IT READS IS OF BULK AT MOST 1048576: true; the input reads as it did. -/
def radarMoreUptoRow : OpenClaim := { program := "ytpmafnifgegfbaa", sum := "896055ec2112ffba632b273f21fe9e104e976230ee08df47250c9dfba201c398", func := "sackung/sackunglaw03.RadarMore", spec := "radarMore", unfollowed := true, recurses := true, plainKeys := false, apart := false, narrowed := true }
def RadarMoreUptoSaid : Prop := radarMoreUptoRow.holds Try.pinned (OpenSpec.upto radarMoreSpec)

/-- 'sackunglaw03.RadarWhole', WHERE WHAT IT READS IS OF BULK AT MOST 1048576: true; the input reads as it did. -/
def radarWholeUptoRow : OpenClaim := { program := "ytpmafnifgegfbaa", sum := "896055ec2112ffba632b273f21fe9e104e976230ee08df47250c9dfba201c398", func := "sackung/sackunglaw03.RadarWhole", spec := "radarWhole", unfollowed := true, recurses := true, plainKeys := false, apart := false, narrowed := true }
def RadarWholeUptoSaid : Prop := radarWholeUptoRow.holds Try.pinned (OpenSpec.upto radarWholeSpec)

/-- 'sackunglaw03.RadarLearns', WHERE WHAT IT READS IS OF BULK AT MOST 1048576: true; the input reads as it did. -/
def radarLearnsUptoRow : OpenClaim := { program := "ytpmafnifgegfbaa", sum := "896055ec2112ffba632b273f21fe9e104e976230ee08df47250c9dfba201c398", func := "sackung/sackunglaw03.RadarLearns", spec := "radarLearns", unfollowed := true, recurses := true, plainKeys := false, apart := false, narrowed := true }
def RadarLearnsUptoSaid : Prop := radarLearnsUptoRow.holds Try.pinned (OpenSpec.upto radarLearnsSpec)

/-- 'sackunglaw03.RadarProves', WHERE WHAT IT READS IS OF BULK AT MOST 1048576: true; the input reads as it did. -/
def radarProvesUptoRow : OpenClaim := { program := "ytpmafnifgegfbaa", sum := "896055ec2112ffba632b273f21fe9e104e976230ee08df47250c9dfba201c398", func := "sackung/sackunglaw03.RadarProves", spec := "radarProves", unfollowed := true, recurses := true, plainKeys := false, apart := false, narrowed := true }
def RadarProvesUptoSaid : Prop := radarProvesUptoRow.holds Try.pinned (OpenSpec.upto radarProvesSpec)

/-- 'sackunglaw03.RadarTruth', WHERE WHAT IT READS IS OF BULK AT MOST 1048576: true; the input reads as it did. -/
def radarTruthUptoRow : OpenClaim := { program := "ytpmafnifgegfbaa", sum := "896055ec2112ffba632b273f21fe9e104e976230ee08df47250c9dfba201c398", func := "sackung/sackunglaw03.RadarTruth", spec := "radarTruth", unfollowed := true, recurses := true, plainKeys := false, apart := false, narrowed := true }
def RadarTruthUptoSaid : Prop := radarTruthUptoRow.holds Try.pinned (OpenSpec.upto radarTruthSpec)

/-- 'sackunglaw03.RadarBlames', WHERE WHAT IT READS IS OF BULK AT MOST 1048576: true; the input reads as it did. -/
def radarBlamesUptoRow : OpenClaim := { program := "ytpmafnifgegfbaa", sum := "896055ec2112ffba632b273f21fe9e104e976230ee08df47250c9dfba201c398", func := "sackung/sackunglaw03.RadarBlames", spec := "radarBlames", unfollowed := true, recurses := true, plainKeys := false, apart := false, narrowed := true }
def RadarBlamesUptoSaid : Prop := radarBlamesUptoRow.holds Try.pinned (OpenSpec.upto radarBlamesSpec)

/-- 'sackunglaw03.RadarFailed', WHERE WHAT IT READS IS OF BULK AT MOST 1048576: true; the input reads as it did. -/
def radarFailedUptoRow : OpenClaim := { program := "ytpmafnifgegfbaa", sum := "896055ec2112ffba632b273f21fe9e104e976230ee08df47250c9dfba201c398", func := "sackung/sackunglaw03.RadarFailed", spec := "radarFailed", unfollowed := true, recurses := true, plainKeys := false, apart := false, narrowed := true }
def RadarFailedUptoSaid : Prop := radarFailedUptoRow.holds Try.pinned (OpenSpec.upto radarFailedSpec)

/-- 'sackunglaw03.RadarStakes', WHERE WHAT IT READS IS OF BULK AT MOST 1048576: true; the input reads as it did. -/
def radarStakesUptoRow : OpenClaim := { program := "ytpmafnifgegfbaa", sum := "896055ec2112ffba632b273f21fe9e104e976230ee08df47250c9dfba201c398", func := "sackung/sackunglaw03.RadarStakes", spec := "radarStakes", unfollowed := true, recurses := true, plainKeys := false, apart := false, narrowed := true }
def RadarStakesUptoSaid : Prop := radarStakesUptoRow.holds Try.pinned (OpenSpec.upto radarStakesSpec)

/-- 'sackunglaw03.RadarBest', WHERE WHAT IT READS IS OF BULK AT MOST 1048576: true; the input reads as it did. -/
def radarBestUptoRow : OpenClaim := { program := "ytpmafnifgegfbaa", sum := "896055ec2112ffba632b273f21fe9e104e976230ee08df47250c9dfba201c398", func := "sackung/sackunglaw03.RadarBest", spec := "radarBest", unfollowed := true, recurses := true, plainKeys := false, apart := false, narrowed := true }
def RadarBestUptoSaid : Prop := radarBestUptoRow.holds Try.pinned (OpenSpec.upto radarBestSpec)

/-- 'sackunglaw03.RadarNames', WHERE WHAT IT READS IS OF BULK AT MOST 1048576: true; the input reads as it did. -/
def radarNamesUptoRow : OpenClaim := { program := "ytpmafnifgegfbaa", sum := "896055ec2112ffba632b273f21fe9e104e976230ee08df47250c9dfba201c398", func := "sackung/sackunglaw03.RadarNames", spec := "radarNames", unfollowed := true, recurses := true, plainKeys := false, apart := false, narrowed := true }
def RadarNamesUptoSaid : Prop := radarNamesUptoRow.holds Try.pinned (OpenSpec.upto radarNamesSpec)

end Rows
end Go.Proofs.Ytpmafnifgegfbaa
