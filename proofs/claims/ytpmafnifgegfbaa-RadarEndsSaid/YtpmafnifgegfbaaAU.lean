/- The range of one number; what Learn says of an end. -/
import Derived.Test.YtpmafnifgegfbaaAL2
import Derived.Test.YtpmafnifgegfbaaPB
namespace Go.Proofs.Ytpmafnifgegfbaa
open Go.RowKit Go.Shelf Go.Deep

set_option maxRecDepth 100000 in
set_option maxHeartbeats 1000000 in
theorem one_any (n : Int) (w : World) : Calls Try.prog 37 #[vi n] w fun e w' => e = .returned (rgV ⟨n, n⟩) ∧ newer w w' := by
  have hn := newer_allocH w (.cells #[vi 0, vi 0] 71)
  have b2 := Whole.made w 71 #[vi 0, vi 0]
  have H0 := Lib.hid (And.intro hn b2)
  clear hn b2
  go_enter Try.func37, Try.ntmps37
  go_upto_region 1 with fail
  refine genQ (fun X => newer w X ∧ Whole X w.heap.size 71 #[vi 0, vi 0]) H0.out ?_
  clear H0
  rintro w1 ⟨hn, b2⟩
  have z0 := b2.at 0 rfl
  have z1 := b2.at 1 rfl
  have f0 := b2.free 0
  have f1 := b2.free 1
  have q2 := (b2.set 0 (vi n)).set 1 (vi n)
  have HE := Lib.hid (And.intro (q2.at 0 (v := vi n) rfl) (q2.at 1 (v := vi n) rfl))
  have HN := Lib.hid ((hn.setCell (p := ⟨w.heap.size, 0, none⟩) (Nat.le_refl _) (vi n)).setCell (p := ⟨w.heap.size, 1, none⟩) (Nat.le_refl _) (vi n))
  clear hn b2 q2
  go_wp2_with fail
  obtain ⟨e0, e1⟩ := HE.out
  exact bodyPost_ret (v := .agg #[vi n, vi n]) (by simp [results, Try.results37, go_sem, e0, e1]) rfl ⟨rfl, HN.out⟩
/-- What Learn says of a survey with an end made its spot's range. -/
theorem learn_ends {s : Sd} (h : SdOk s) (h0 : learnE s = 0) {k : Nat} {p : Sp} (hk : s.spots[k]? = some p) {n : Nat} {e : Sp} (he : (endsT p (learnN s k))[n]? = some e) (hn : (outsT p (learnN s k))[n]? = some false) : learnE (spotS s k e) = if n < 4 then 0 else 9 := by
  have hok : okS s (freeL s) = true := by
    unfold learnE at h0
    rw [if_pos (err_iff.2 h)] at h0
    split at h0
    · assumption
    · exact absurd h0 (by decide)
  obtain ⟨h1, h2⟩ := ends_law h hok hk he hn
  unfold learnE
  rw [if_pos (err_iff.2 h1), h2]
  by_cases hc : n < 4
  · rw [decide_eq_true hc, if_pos rfl, if_pos hc]
  · rw [decide_eq_false hc, if_neg (by decide), if_neg hc]

end Go.Proofs.Ytpmafnifgegfbaa
