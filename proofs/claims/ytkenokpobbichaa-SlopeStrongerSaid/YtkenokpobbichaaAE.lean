/- The truths of a surface in which all columns hold least, or most, by the reference. -/
import Derived.Test.YtkenokpobbichaaAD
namespace Go.Proofs.Ytkenokpobbichaa
open Go.RowKit Go.Shelf Go.Deep

set_option maxHeartbeats 1000000 in
theorem refLeast_any (b : Bd) (w : World) : Calls Try.prog 79 #[bdV b] w fun e w' => e = .returned (rlV (endR false b)) ∧ newer w w' := by
  have hnw : newer w ((w.alloc (.cells (bdC b) 69)).alloc (.cells #[vi b.fr.lo, vi b.co.lo, vi b.wa.hi] 125)) := newer_trans (newer_allocH _ _) (newer_allocH _ _)
  have hxb := (Whole.made w 69 (bdC b)).alloc (.cells #[vi 0, vi 0, vi 0] 125)
  have hrb := Whole.made (w.alloc (.cells (bdC b) 69)) 125 #[vi b.fr.lo, vi b.co.lo, vi b.wa.hi]
  rw [World.size_alloc] at hrb
  have H0 := Lib.hid (And.intro hnw hrb)
  have x2 := hxb.at 2 (v := vi b.fr.lo) rfl
  have x4 := hxb.at 4 (v := vi b.co.lo) rfl
  have x7 := hxb.at 7 (v := vi b.wa.hi) rfl
  clear hnw hxb hrb
  go_enter Try.func79, Try.ntmps79
  go_wp2_with fail
  have z0 := H0.out.2.at 0 (v := vi b.fr.lo) rfl
  have z1 := H0.out.2.at 1 (v := vi b.co.lo) rfl
  have z2 := H0.out.2.at 2 (v := vi b.wa.hi) rfl
  exact bodyPost_ret (v := .agg #[vi b.fr.lo, vi b.co.lo, vi b.wa.hi]) (by simp [results, Try.results79, go_sem, z0, z1, z2]) rfl ⟨rfl, H0.out.1⟩
set_option maxHeartbeats 1000000 in
theorem refMost_any (b : Bd) (w : World) : Calls Try.prog 78 #[bdV b] w fun e w' => e = .returned (rlV (endR true b)) ∧ newer w w' := by
  have hnw : newer w ((w.alloc (.cells (bdC b) 69)).alloc (.cells #[vi b.fr.hi, vi b.co.hi, vi b.wa.lo] 125)) := newer_trans (newer_allocH _ _) (newer_allocH _ _)
  have hxb := (Whole.made w 69 (bdC b)).alloc (.cells #[vi 0, vi 0, vi 0] 125)
  have hrb := Whole.made (w.alloc (.cells (bdC b) 69)) 125 #[vi b.fr.hi, vi b.co.hi, vi b.wa.lo]
  rw [World.size_alloc] at hrb
  have H0 := Lib.hid (And.intro hnw hrb)
  have x3 := hxb.at 3 (v := vi b.fr.hi) rfl
  have x5 := hxb.at 5 (v := vi b.co.hi) rfl
  have x6 := hxb.at 6 (v := vi b.wa.lo) rfl
  clear hnw hxb hrb
  go_enter Try.func78, Try.ntmps78
  go_wp2_with fail
  have z0 := H0.out.2.at 0 (v := vi b.fr.hi) rfl
  have z1 := H0.out.2.at 1 (v := vi b.co.hi) rfl
  have z2 := H0.out.2.at 2 (v := vi b.wa.lo) rfl
  exact bodyPost_ret (v := .agg #[vi b.fr.hi, vi b.co.hi, vi b.wa.lo]) (by simp [results, Try.results78, go_sem, z0, z1, z2]) rfl ⟨rfl, H0.out.1⟩
set_option maxHeartbeats 1000000 in
theorem refHolds_any (b : Bd) (x : Rl) (w : World) (hn : 0 ≤ b.normal ∧ b.normal ≤ 100000) (h1 : 0 ≤ x.fr ∧ x.fr ≤ 2000) (h2 : 0 ≤ x.co ∧ x.co ≤ 100000) (h3 : 0 ≤ x.wa ∧ x.wa ≤ 100000) :
    Calls Try.prog 80 #[bdV b, rlV x] w fun e w' => e = .returned (vi (holdsN b x)) ∧ newer w w' := by
  have hp := holds_bd (b := b) (x := x) hn h1 h2 h3.1
  obtain ⟨drive, normal, fr, co, wa⟩ := b
  obtain ⟨xf, xc, xw⟩ := x
  unfold holdsN at hp ⊢
  dsimp only at hn h1 h2 h3 hp ⊢
  have HN := Lib.hid (newer_trans (newer_allocH w (.cells #[vi drive, vi normal, vi fr.lo, vi fr.hi, vi co.lo, vi co.hi, vi wa.lo, vi wa.hi] 69)) (newer_allocH (w.alloc (.cells #[vi drive, vi normal, vi fr.lo, vi fr.hi, vi co.lo, vi co.hi, vi wa.lo, vi wa.hi] 69)) (.cells #[vi xf, vi xc, vi xw] 125)))
  by_cases hd : 0 < normal - xw
  · have e : mxI 0 (normal - xw) = normal - xw := by unfold mxI; rw [if_pos hd]
    rw [e] at hp ⊢
    have hd2 : ¬ (normal - xw < 0) := by omega
    clear e
    go_enter Try.func80, Try.ntmps80
    go_wp2_with fail
    all_goals first
      | (exfalso; omega)
      | (go_ret; exact ⟨rfl, HN.out⟩)
  · have e : mxI 0 (normal - xw) = 0 := by unfold mxI; rw [if_neg hd]
    rw [e] at hp ⊢
    simp only [Int.zero_mul, Int.zero_ediv, Int.zero_add] at hp ⊢
    clear e
    by_cases hd2 : normal - xw < 0
    · go_enter Try.func80, Try.ntmps80
      go_wp2_with fail
      all_goals first
        | (exfalso; omega)
        | (go_ret; exact ⟨rfl, HN.out⟩)
    · have hz : normal - xw = 0 := by omega
      have hz2 : (normal - xw) * xf = 0 := by rw [hz, Int.zero_mul]
      go_enter Try.func80, Try.ntmps80
      go_wp2_with fail
      all_goals first
        | (exfalso; omega)
        | (go_ret; exact ⟨rfl, HN.out⟩)

end Go.Proofs.Ytkenokpobbichaa
