/- Closed numbers of the document's examples. -/
import Derived.Test.YtkenokpobbichaaX
namespace Go.Proofs.Ytkenokpobbichaa
open Go.RowKit Go.Shelf Go.Deep

theorem val_span : checkUN valleyD 0 [0, 0] = 0 ∧ dK (bedsU valleyD 0 [0, 0]) (bedsU valleyD 0 [0, 0]).length = 700 ∧ facE (bedsU valleyD 0 [0, 0]) false = 785 ∧ facE (bedsU valleyD 0 [0, 0]) true = 1200 := by decide +kernel
theorem val_ok : slopeB valleyD = true := by decide +kernel
theorem val_worst : worstS valleyD = some ((0, [0, 1]), 755) := by decide +kernel
theorem val_enough : enoughN valleyD 700 = 0 := by decide +kernel
theorem val_margin : marginS valleyD 700 = 70 := by decide +kernel
theorem val_moves : askedN valleyD 1300 = 0 ∧ movesL valleyD 1300 (some true) = [0, 1] ∧ movesL valleyD 1300 (some false) = [0, 1, 2] := by decide +kernel

end Go.Proofs.Ytkenokpobbichaa
