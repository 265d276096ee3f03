/- What a stake may leave, by the reference: the words. -/
import Derived.Test.YtpmafnifgegfbaaPA
namespace Go.Proofs.Ytpmafnifgegfbaa
open Go.RowKit Go.Shelf Go.Deep

/-- Does a stake see a field so that a read may come? -/
def seesB (s : Sd) (t : Tl) (r : Int) (f : List Mv) : Bool := decide (amt (r - sightN t (fnL f t.spot.toNat)) ≤ offN t s.day)
/-- How many lists a read leaves. -/
def leftC (s : Sd) (all : List (List Mv)) (t : Tl) (r : Int) : Int := ((turnsR s (all.filter (seesB s t r))).length : Nat)
/-- The worst of the first reads. -/
def worstK (s : Sd) (all : List (List Mv)) (t : Tl) : Nat → Int
  | 0 => 0
  | k + 1 => if all.any (seesB s t ((k : Int) - 420)) = true then (if worstK s all t k < leftC s all t ((k : Int) - 420) then leftC s all t ((k : Int) - 420) else worstK s all t k) else worstK s all t k
theorem worstK_succ (s : Sd) (all : List (List Mv)) (t : Tl) (k : Nat) : worstK s all t (k + 1) = if all.any (seesB s t ((k : Int) - 420)) = true then (if worstK s all t k < leftC s all t ((k : Int) - 420) then leftC s all t ((k : Int) - 420) else worstK s all t k) else worstK s all t k := rfl

end Go.Proofs.Ytpmafnifgegfbaa
