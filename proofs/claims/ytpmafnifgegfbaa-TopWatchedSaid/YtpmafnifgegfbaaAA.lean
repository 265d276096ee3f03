/- The whole turns that are possible, or the error. -/
import Derived.Test.YtpmafnifgegfbaaZ
namespace Go.Proofs.Ytpmafnifgegfbaa
open Go.RowKit Go.Shelf Go.Deep

/-- The error of so many lists. -/
def posE (S : List (List (Option Int))) : Int := if 60 < S.length then 3 else if S = [] then 9 else 0
theorem found_len {y : Sm} {S : List (List (Option Int))} {b : Nat} {xs : List Ln} {ls : List Nat} {A1 : Option Addr} {c1 : Nat} {A2 : Option Addr} {c2 : Nat} {W : World} (h : FoundOk y S b xs ls A1 c1 A2 c2 W) : xs.length = (S.take 60).length := by
  have := congrArg List.length h.xl
  rwa [List.length_map, List.length_map] at this
set_option maxRecDepth 100000 in
set_option maxHeartbeats 2000000 in
theorem possible_bad (y : Sm) (w : World) (hok : SmOk y w) (hs : SdOk y.s) (hb : posE (allT y.s) ≠ 0) : Calls Try.prog 68 #[smV y] w fun e w' => e = .returned (.tuple #[.slice none 0 0, .slice none 0 0, vi (posE (allT y.s))]) ∧ newer w w' := by
  have hnw := newer_allocH w (.cells (smC y) 40)
  have HL := Lib.hid (lists_any y _ (hok.next hnw) hs)
  have HN := Lib.hid hnw
  have x0 := (Whole.made w 40 (smC y)).at 0 (v := .slice y.sa y.s.spots.length y.sc) rfl
  have x1 := (Whole.made w 40 (smC y)).at 1 (v := vi y.s.strain) rfl
  have x2 := (Whole.made w 40 (smC y)).at 2 (v := .slice y.ta y.s.tools.length y.tc) rfl
  have x3 := (Whole.made w 40 (smC y)).at 3 (v := vi y.s.day) rfl
  have x4 := (Whole.made w 40 (smC y)).at 4 (v := .slice y.ra y.s.reads.length y.rc) rfl
  obtain ⟨p, hp⟩ : ∃ q, q = posE (allT y.s) := ⟨_, rfl⟩
  rw [← hp] at hb ⊢
  unfold posE at hp
  by_cases h1 : (allT y.s).length ≤ 60
  · rw [decide_eq_true h1] at HL
    rw [if_neg (by omega)] at hp
    by_cases h2 : allT y.s = []
    · rw [if_pos h2] at hp
      have HNI := Lib.hid h2
      subst hp
      clear h1 h2 hnw
      go_enter Try.func68, Try.ntmps68
      go_wp2_with fail
      refine (HL.out).mono ?_
      rintro e w1 ⟨xs, ls, A1, c1, A2, c2, rfl, g1, g2⟩
      have hx : xs.length = 0 := by rw [found_len g2, HNI.out]; rfl
      rw [hx]
      have HE := Lib.hid (newer_trans HN.out g1)
      clear g1 g2 hx HL
      go_wp2_with fail
      go_ret3
      exact ⟨rfl, HE.out⟩
    · rw [if_neg h2] at hp
      exact absurd hp hb
  · rw [decide_eq_false h1] at HL
    rw [if_pos (by omega)] at hp
    subst hp
    clear h1 hnw
    go_enter Try.func68, Try.ntmps68
    go_wp2_with fail
    refine (HL.out).mono ?_
    rintro e w1 ⟨xs, ls, A1, c1, A2, c2, rfl, g1, g2⟩
    have HE := Lib.hid (newer_trans HN.out g1)
    clear g1 g2 HL
    go_wp2_with fail
    go_ret3
    exact ⟨rfl, HE.out⟩
theorem posE_ok {S : List (List (Option Int))} (h : posE S = 0) : S.length ≤ 60 ∧ S ≠ [] := by
  unfold posE at h
  split at h
  · cases h
  · rename_i h1
    split at h
    · cases h
    · rename_i h2
      exact ⟨by omega, h2⟩
set_option maxRecDepth 100000 in
set_option maxHeartbeats 2000000 in
theorem possible_ok (y : Sm) (w : World) (hok : SmOk y w) (hs : SdOk y.s) (hb : posE (allT y.s) = 0) : Calls Try.prog 68 #[smV y] w fun e w' => ∃ xs ls A1 c1 A2 c2, e = .returned (.tuple #[.slice A1 xs.length c1, .slice A2 ls.length c2, vi 0]) ∧ newer w w' ∧ FoundOk y (allT y.s) w.heap.size xs ls A1 c1 A2 c2 w' := by
  have hnw := newer_allocH w (.cells (smC y) 40)
  have HL := Lib.hid (lists_any y _ (hok.next hnw) hs)
  have HN := Lib.hid hnw
  have x0 := (Whole.made w 40 (smC y)).at 0 (v := .slice y.sa y.s.spots.length y.sc) rfl
  have x1 := (Whole.made w 40 (smC y)).at 1 (v := vi y.s.strain) rfl
  have x2 := (Whole.made w 40 (smC y)).at 2 (v := .slice y.ta y.s.tools.length y.tc) rfl
  have x3 := (Whole.made w 40 (smC y)).at 3 (v := vi y.s.day) rfl
  have x4 := (Whole.made w 40 (smC y)).at 4 (v := .slice y.ra y.s.reads.length y.rc) rfl
  obtain ⟨h1, h2⟩ := posE_ok hb
  rw [decide_eq_true h1] at HL
  have HNI := Lib.hid (And.intro h1 h2)
  clear h1 h2 hnw hb
  go_enter Try.func68, Try.ntmps68
  go_wp2_with fail
  refine (HL.out).mono ?_
  rintro e w1 ⟨xs, ls, A1, c1, A2, c2, rfl, g1, g2⟩
  have hx : ((xs.length : Int) == 0) = false := by
    rw [beq_eq_false_iff_ne]
    have h1 := found_len g2
    rw [List.take_of_length_le HNI.out.1] at h1
    have h2 := List.length_pos_iff.2 HNI.out.2
    omega
  have HE := Lib.hid (And.intro (newer_trans HN.out g1) (g2.low HN.out.size))
  clear g1 g2 HL
  go_wp2_with fail
  go_ret3
  exact ⟨xs, ls, A1, c1, A2, c2, rfl, HE.out.1, HE.out.2⟩
set_option maxRecDepth 100000 in
set_option maxHeartbeats 2000000 in
theorem turns_err (y : Sm) (w : World) (hok : SmOk y w) (few : SmFew y) (he : errN y.s ≠ 0) : Calls Try.prog 32 #[smV y] w fun e w' => e = .returned (.tuple #[.slice none 0 0, vi (errN y.s)]) ∧ newer w w' := by
  have hnw := newer_allocH w (.cells (smC y) 40)
  have HC := Lib.hid (check_any y _ (hok.next hnw) few)
  have HN := Lib.hid hnw
  have HOK := Lib.hid hok
  have x0 := (Whole.made w 40 (smC y)).at 0 (v := .slice y.sa y.s.spots.length y.sc) rfl
  have x1 := (Whole.made w 40 (smC y)).at 1 (v := vi y.s.strain) rfl
  have x2 := (Whole.made w 40 (smC y)).at 2 (v := .slice y.ta y.s.tools.length y.tc) rfl
  have x3 := (Whole.made w 40 (smC y)).at 3 (v := vi y.s.day) rfl
  have x4 := (Whole.made w 40 (smC y)).at 4 (v := .slice y.ra y.s.reads.length y.rc) rfl
  have hbx := Whole.made w 40 (smC y)
  have HBX := Lib.hid hbx
  clear hnw hok few hbx
  obtain ⟨p, hp⟩ : ∃ q, q = errN y.s := ⟨_, rfl⟩
  rw [← hp] at HC he ⊢
  clear hp
  go_enter Try.func32, Try.ntmps32
  go_wp2_with fail
  refine (HC.out).mono ?_
  rintro e w1 ⟨rfl, hb⟩
  have HE := Lib.hid (newer_trans HN.out hb)
  clear hb HC x0 x1 x2 x3 x4
  go_wp2_with fail
  go_ret2
  exact ⟨rfl, HE.out⟩
set_option maxRecDepth 100000 in
set_option maxHeartbeats 2000000 in
theorem turns_bad (y : Sm) (w : World) (hok : SmOk y w) (few : SmFew y) (he : errN y.s = 0) (hp : posE (allT y.s) ≠ 0) : Calls Try.prog 32 #[smV y] w fun e w' => e = .returned (.tuple #[.slice none 0 0, vi (posE (allT y.s))]) ∧ newer w w' := by
  have hnw := newer_allocH w (.cells (smC y) 40)
  have HC := Lib.hid (check_any y _ (hok.next hnw) few)
  have HN := Lib.hid hnw
  have HOK := Lib.hid hok
  have x0 := (Whole.made w 40 (smC y)).at 0 (v := .slice y.sa y.s.spots.length y.sc) rfl
  have x1 := (Whole.made w 40 (smC y)).at 1 (v := vi y.s.strain) rfl
  have x2 := (Whole.made w 40 (smC y)).at 2 (v := .slice y.ta y.s.tools.length y.tc) rfl
  have x3 := (Whole.made w 40 (smC y)).at 3 (v := vi y.s.day) rfl
  have x4 := (Whole.made w 40 (smC y)).at 4 (v := .slice y.ra y.s.reads.length y.rc) rfl
  have hbx := Whole.made w 40 (smC y)
  have HBX := Lib.hid hbx
  clear hnw hok few hbx
  rw [he] at HC
  have HS := Lib.hid (err_iff.1 he)
  have HP := Lib.hid hp
  obtain ⟨p, hpp⟩ : ∃ q, q = posE (allT y.s) := ⟨_, rfl⟩
  rw [← hpp]
  have HPP := Lib.hid hpp
  clear he hp hpp
  go_enter Try.func32, Try.ntmps32
  go_wp2_with fail
  refine (HC.out).mono ?_
  rintro e w1 ⟨rfl, hb⟩
  have hx1 := HBX.out.below hb HBX.out.lt
  clear x0 x1 x2 x3 x4
  have x0 := hx1.at 0 (v := .slice y.sa y.s.spots.length y.sc) rfl
  have x1 := hx1.at 1 (v := vi y.s.strain) rfl
  have x2 := hx1.at 2 (v := .slice y.ta y.s.tools.length y.tc) rfl
  have x3 := hx1.at 3 (v := vi y.s.day) rfl
  have x4 := hx1.at 4 (v := .slice y.ra y.s.reads.length y.rc) rfl
  have HE := Lib.hid (newer_trans HN.out hb)
  have HL := Lib.hid (possible_bad y w1 (HOK.out.next HE.out) HS.out HP.out)
  rw [← HPP.out] at HL
  clear hb HC hx1
  go_wp2_with fail
  refine (HL.out).mono ?_
  rintro e w2 ⟨rfl, hb⟩
  have HE2 := Lib.hid (newer_trans HE.out hb)
  clear hb
  go_wp2_with fail
  go_ret2
  exact ⟨rfl, HE2.out⟩
set_option maxRecDepth 100000 in
set_option maxHeartbeats 2000000 in
theorem turns_ok (y : Sm) (w : World) (hok : SmOk y w) (few : SmFew y) (he : errN y.s = 0) (hp : posE (allT y.s) = 0) : Calls Try.prog 32 #[smV y] w fun e w' => ∃ xs ls A1 c1 A2 c2, e = .returned (.tuple #[.slice A1 xs.length c1, vi 0]) ∧ newer w w' ∧ FoundOk y (allT y.s) w.heap.size xs ls A1 c1 A2 c2 w' := by
  have hnw := newer_allocH w (.cells (smC y) 40)
  have HC := Lib.hid (check_any y _ (hok.next hnw) few)
  have HN := Lib.hid hnw
  have HOK := Lib.hid hok
  have x0 := (Whole.made w 40 (smC y)).at 0 (v := .slice y.sa y.s.spots.length y.sc) rfl
  have x1 := (Whole.made w 40 (smC y)).at 1 (v := vi y.s.strain) rfl
  have x2 := (Whole.made w 40 (smC y)).at 2 (v := .slice y.ta y.s.tools.length y.tc) rfl
  have x3 := (Whole.made w 40 (smC y)).at 3 (v := vi y.s.day) rfl
  have x4 := (Whole.made w 40 (smC y)).at 4 (v := .slice y.ra y.s.reads.length y.rc) rfl
  have hbx := Whole.made w 40 (smC y)
  have HBX := Lib.hid hbx
  clear hnw hok few hbx
  rw [he] at HC
  have HS := Lib.hid (err_iff.1 he)
  have HP := Lib.hid hp
  clear he hp
  go_enter Try.func32, Try.ntmps32
  go_wp2_with fail
  refine (HC.out).mono ?_
  rintro e w1 ⟨rfl, hb⟩
  have hx1 := HBX.out.below hb HBX.out.lt
  clear x0 x1 x2 x3 x4
  have x0 := hx1.at 0 (v := .slice y.sa y.s.spots.length y.sc) rfl
  have x1 := hx1.at 1 (v := vi y.s.strain) rfl
  have x2 := hx1.at 2 (v := .slice y.ta y.s.tools.length y.tc) rfl
  have x3 := hx1.at 3 (v := vi y.s.day) rfl
  have x4 := hx1.at 4 (v := .slice y.ra y.s.reads.length y.rc) rfl
  have HE := Lib.hid (newer_trans HN.out hb)
  have HL := Lib.hid (possible_ok y w1 (HOK.out.next HE.out) HS.out HP.out)
  clear hb HC hx1
  go_wp2_with fail
  refine (HL.out).mono ?_
  rintro e w2 ⟨xs, ls, A1, c1, A2, c2, rfl, hb, hf⟩
  have HE2 := Lib.hid (And.intro (newer_trans HE.out hb) (hf.low HE.out.size))
  clear hb hf
  go_wp2_with fail
  go_ret2
  exact ⟨xs, ls, A1, c1, A2, c2, rfl, HE2.out.1, HE2.out.2⟩

end Go.Proofs.Ytpmafnifgegfbaa
