/- What Learn and Turns answer on a valid survey. -/
import Derived.Test.YtpmafnifgegfbaaAL
import Derived.Test.YtpmafnifgegfbaaPA
namespace Go.Proofs.Ytpmafnifgegfbaa
open Go.RowKit Go.Shelf Go.Deep

theorem posE_len (T : List (List (Option Int))) : posE T = if 60 < T.length then 3 else if T.length = 0 then 9 else 0 := by
  unfold posE
  by_cases h : T = []
  · rw [h]; rfl
  · have : T.length ≠ 0 := fun e => h (List.eq_nil_of_length_eq_zero e)
    rw [if_neg h, if_neg this]
theorem turL_mem : ∀ (ts : List Tl) (ks : List (Option Int)) (a : Int), a ∈ turL ts ks → ∃ (j : Nat) (t : Tl), ts[j]? = some t ∧ t.turn ≠ 0 ∧ a = (ks.getD j none).getD 0
  | [], _, a, h => by simp [turL] at h
  | u :: ts, [], a, h => by simp [turL] at h
  | u :: ts, o :: ks, a, h => by
    simp only [turL] at h
    split at h
    · obtain ⟨j, t, h1, h2, h3⟩ := turL_mem ts ks a h
      exact ⟨j + 1, t, h1, h2, by simpa using h3⟩
    · rename_i hu
      rcases List.mem_cons.1 h with h | h
      · exact ⟨0, u, rfl, hu, by simpa using h⟩
      · obtain ⟨j, t, h1, h2, h3⟩ := turL_mem ts ks a h
        exact ⟨j + 1, t, h1, h2, by simpa using h3⟩
theorem turnsN_few {s : Sd} (h : SdOk s) {l : List Int} (hl : l ∈ turnsN s) {a : Int} (ha : a ∈ l) : -720 ≤ a ∧ a ≤ 720 := by
  obtain ⟨ks, f, h1, _, h3, h4, rfl⟩ := (mem_turnsN h).1 hl
  obtain ⟨j, t, ht, hT, rfl⟩ := turL_mem _ _ _ ha
  obtain ⟨q, hq⟩ := h3 j t ht hT
  rw [hq]
  exact agree_few h h4 ht hT hq
theorem turnLs_mem {s : Sd} {l : List Int} (hl : l ∈ turnLs s) : SdOk s ∧ l ∈ turnsN s := by
  unfold turnLs at hl
  split at hl
  · rename_i h0
    refine ⟨err_iff.1 ?_, hl⟩
    by_cases e : errN s = 0
    · exact e
    · unfold turnE at h0
      rw [if_neg e] at h0
      exact h0
  · cases hl
theorem own_setAt {w : World} {base g n c size off : Nat} {e : TypeId} {xs : List Value} {u : Value} (h : w.ownsRow base e size (.slice (some ⟨g, 0, none⟩) n c) n xs) : (w.setCell ⟨g, off, none⟩ u).ownsRow base e size (.slice (some ⟨g, 0, none⟩) n c) n (xs.set off u) := by
  rcases h.2 with ⟨h0, _⟩ | ⟨g2, cap, cur, hv, hb, hg, hnc, hcm, hcs, htk⟩
  · cases h0
  · injection hv with e1 _ e3
    injection e1 with e1
    injection e1 with e1
    subst e1
    refine ⟨by rw [List.length_set]; exact h.1, .inr ⟨g, cap, cur.setIfInBounds off u, by rw [e3], hb, Whole.set hg off u, hnc, hcm, by simpa using hcs, ?_⟩⟩
    rw [Array.toList_setIfInBounds, List.take_set, htk]
theorem own_cells {w : World} {base g n c size : Nat} {e : TypeId} {xs : List Value} (h : w.ownsRow base e size (.slice (some ⟨g, 0, none⟩) n c) n xs) : ∃ cs, Whole w g e cs := by
  rcases h.2 with ⟨h0, _⟩ | ⟨g2, cap, cur, hv, hb, hg, _⟩
  · cases h0
  · injection hv with e1 _ e3
    injection e1 with e1
    injection e1 with e1
    subst e1
    exact ⟨_, hg⟩
theorem set_rd (l : List Int) (i : Nat) (a : Int) : (l.flatMap intL).set i (vi a) = (l.set i a).flatMap intL := by rw [map_vi, map_vi, List.map_set]
theorem placeN_le (ts : List Tl) (k : Nat) : placeN ts k ≤ k := by
  unfold placeN
  refine Nat.le_trans (List.length_filter_le _ _) ?_
  rw [List.length_take]
  exact Nat.min_le_left _ _
theorem turnLs_few (s : Sd) : (turnLs s).length ≤ 60 := by
  unfold turnLs
  split
  · rename_i h0
    unfold turnE at h0
    split at h0
    · rw [List.length_map]; exact (posE_ok h0).1
    · rename_i h1; exact absurd h0 h1
  · exact Nat.zero_le _
theorem learnL_len (s : Sd) : (learnL s).length ≤ s.spots.length := by
  unfold learnL
  split
  · exact Nat.le_of_eq (knK_len s _)
  · exact Nat.zero_le _
/-- Survey, its value spelled. -/
theorem survey_any (y : Sm) (w : World) (hok : SmOk y w) (few : SmFew y) : Calls Try.prog 21 #[smV y] w fun e w' => ∃ sa sc ta tc ra rc, e = .returned (.agg #[.slice sa y.s.spots.length sc, vi y.s.strain, .slice ta y.s.tools.length tc, vi y.s.day, .slice ra y.s.reads.length rc]) ∧ SvOwn ⟨y.s, sa, sc, ta, tc, ra, rc⟩ w.heap.size w' ∧ newer w w' := by
  refine (lawSurvey y w hok few).mono ?_
  rintro e w' ⟨⟨zs, sa, sc, ta, tc, ra, rc⟩, rfl, hz, ho, hb⟩
  have hz : zs = y.s := hz
  subst hz
  exact ⟨sa, sc, ta, tc, ra, rc, rfl, ho, hb⟩
theorem learn_two {s : Sd} (h : SdOk s) : (learnE s = 9 ∧ learnL s = [] ∧ okS s (freeL s) = false) ∨ (learnE s = 0 ∧ learnL s = knL s ∧ okS s (freeL s) = true) := by
  have e := err_iff.2 h
  cases ho : okS s (freeL s) with
  | true =>
    have e1 : learnE s = 0 := by unfold learnE; rw [if_pos e, if_pos ho]
    exact .inr ⟨e1, by unfold learnL; rw [if_pos e1], rfl⟩
  | false =>
    have e1 : learnE s = 9 := by unfold learnE; rw [if_pos e, if_neg (by rw [ho]; decide)]
    exact .inl ⟨e1, by unfold learnL; rw [if_neg (by rw [e1]; decide)], rfl⟩
theorem learn_yes {s : Sd} (h : SdOk s) (ho : okS s (freeL s) = true) : learnE s = 0 ∧ learnL s = knL s := by
  rcases learn_two h with ⟨_, _, h1⟩ | ⟨h1, h2, _⟩
  · rw [ho] at h1; cases h1
  · exact ⟨h1, h2⟩
/-- Turns: too many, none, or all. -/
theorem turn_three {s : Sd} (h : SdOk s) : (turnE s = 3 ∧ turnLs s = [] ∧ 60 < (turnsN s).length) ∨ (turnE s = 9 ∧ turnLs s = [] ∧ turnsN s = []) ∨ (turnE s = 0 ∧ turnLs s = turnsN s ∧ turnsN s ≠ [] ∧ (turnsN s).length ≤ 60) := by
  have e := err_iff.2 h
  have e1 : turnE s = posE (allT s) := by unfold turnE; rw [if_pos e]
  have el : (turnsN s).length = (allT s).length := by
    show (List.map _ (allT s)).length = _
    rw [List.length_map]
  by_cases h0 : posE (allT s) = 0
  · have e2 : turnLs s = turnsN s := by unfold turnLs; rw [if_pos (e1.trans h0)]; rfl
    refine .inr (.inr ⟨e1.trans h0, e2, fun hn => (posE_ok h0).2 ?_, by rw [el]; exact (posE_ok h0).1⟩)
    rw [hn] at el
    exact List.eq_nil_of_length_eq_zero el.symm
  · have e2 : turnLs s = [] := by unfold turnLs; rw [if_neg (by rw [e1]; exact h0)]
    by_cases h6 : 60 < (allT s).length
    · refine .inl ⟨?_, e2, by rw [el]; exact h6⟩
      rw [e1]
      unfold posE
      rw [if_pos h6]
    · have hn : allT s = [] := by
        unfold posE at h0
        rw [if_neg h6] at h0
        split at h0
        · assumption
        · exact absurd rfl h0
      refine .inr (.inl ⟨?_, e2, by
        rw [hn] at el
        exact List.eq_nil_of_length_eq_zero el⟩)
      rw [e1]
      unfold posE
      rw [if_neg h6, if_pos hn]
theorem turn_have {s : Sd} (h : SdOk s) {l : List Int} (hl : l ∈ turnsN s) : (turnE s = 3 ∧ turnLs s = []) ∨ (turnE s = 0 ∧ turnLs s = turnsN s ∧ (turnsN s).length ≤ 60) := by
  rcases turn_three h with ⟨h1, h2, _⟩ | ⟨_, _, h3⟩ | ⟨h1, h2, _, h4⟩
  · exact .inl ⟨h1, h2⟩
  · rw [h3] at hl; cases hl
  · exact .inr ⟨h1, h2, h4⟩

end Go.Proofs.Ytpmafnifgegfbaa
