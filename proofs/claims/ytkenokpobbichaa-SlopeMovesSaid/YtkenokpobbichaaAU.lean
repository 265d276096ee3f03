/- The columns that move: as the reference says it, plain. -/
import Derived.Test.YtkenokpobbichaaAT
namespace Go.Proofs.Ytkenokpobbichaa
open Go.RowKit Go.Shelf Go.Deep

/-- Does a surface move a column, by the reference? -/
def refMv (s : Sd) (F : Int) (sure : Bool) (x : Nat) (u : Nat × List Nat) : Bool := !decide (refLo s u < 0) && (decide (u.1 ≤ x) && decide (x < u.1 + u.2.length)) && decide (refE (bedsL s.cols u.1 u.2) sure < F)
theorem moves_ref {s : Sd} (hs : SdOk s) {F : Int} (f0 : 0 ≤ F) (f1 : F ≤ 10000) (sure : Bool) (x : Nat) : moveB (cF (hT (some sure) s) (dAt s) F) s.n bigN s.cols.length s.K x = (allR s.n s.cols.length s.K).any (refMv s F sure x) := by
  have ok := hd_ok hs sure
  have ok0 := hd_ok hs false
  have hbig := few_big ok
  have hiff := moveB_iff (B := 1300100000) (x := x) (fun k b _ => cF_bd ok f0 (by omega) k b) (by decide) ok.n0 ok.K0 hbig
  rw [Bool.eq_iff_iff]
  rw [show (hT (some sure) s) = hAt sure s from rfl, hiff, List.any_eq_true]
  constructor
  · rintro ⟨k, l, h1, h2, h3, h4⟩
    refine ⟨(k, l), (all_mem ok.K0).2 h1, ?_⟩
    have e1 : costP (cF (hAt sure s) (dAt s) F) k l = 1000 * sumH (hAt sure s) k l - F * sumH (dAt s) k l := cost_sums l k
    rw [e1, neg_iff (sumH_nonneg ok.h0 l k) f0] at h2
    have e2 : ¬ refLo s (k, l) < 0 := by
      unfold refLo
      rw [refE_sum, refF_neg ok0]
      exact fun h => h h2.1
    have e3 : refE (bedsL s.cols k l) sure < F := by
      rw [refE_sum]
      unfold refF
      rw [if_neg (by omega), factor_lt f1]
      exact h2.2
    unfold refMv
    rw [decide_eq_false e2, decide_eq_true h3, decide_eq_true h4, decide_eq_true e3]
    rfl
  · rintro ⟨⟨k, l⟩, hm, h⟩
    unfold refMv at h
    rw [Bool.and_eq_true, Bool.and_eq_true, Bool.and_eq_true, Bool.not_eq_true', decide_eq_false_iff_not, decide_eq_true_eq, decide_eq_true_eq, decide_eq_true_eq] at h
    obtain ⟨⟨h1, h2, h3⟩, h4⟩ := h
    have hD : 1 ≤ sumH (dAt s) k l := by
      unfold refLo at h1
      rw [refE_sum, refF_neg ok0] at h1
      exact Classical.not_not.1 h1
    refine ⟨k, l, (all_mem ok.K0).1 hm, ?_, h2, h3⟩
    have e1 : costP (cF (hAt sure s) (dAt s) F) k l = 1000 * sumH (hAt sure s) k l - F * sumH (dAt s) k l := cost_sums l k
    rw [e1, neg_iff (sumH_nonneg ok.h0 l k) f0]
    refine ⟨hD, ?_⟩
    rw [refE_sum] at h4
    unfold refF at h4
    rw [if_neg (show ¬ sumH (dAt s) k l < 1 by omega), factor_lt f1] at h4
    exact h4

end Go.Proofs.Ytkenokpobbichaa
