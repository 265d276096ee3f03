/- SlopeMoves walked: it returns true, and leaves what was there. -/
import Derived.Test.YtkenokpobbichaaBA
import Derived.Test.YtkenokpobbichaaBB
namespace Go.Proofs.Ytkenokpobbichaa
open Go.RowKit Go.Shelf Go.Deep

theorem row_nats {w : World} {B : Nat} {A : Option Addr} {c : Nat} {l : List Nat} {L : List Int} (hL : L = l.map fun x : Nat => (x : Int)) (h : w.ownsRow B 3 1 (.slice A l.length c) l.length (l.map fun x : Nat => vi x)) : L.length = l.length ∧ Row intL 1 w w.heap.size A L := by
  have e2 : L.length = l.length := by rw [hL, List.length_map]
  have e1 : (l.map fun x : Nat => vi x) = L.flatMap intL := by rw [hL, ← map_intL, List.map_map]; rfl
  rw [e1, ← e2] at h
  exact ⟨e2, row_of_own (enc := intL) (size := 1) (by omega) (fun _ => rfl) h⟩
theorem moves_eq {s : Sd} (hs : SdOk s) {F : Int} (f0 : 0 ≤ F) (f1 : F ≤ 10000) (sure : Bool) : refMoves s (allR s.n s.cols.length s.K) F sure = movesL s F (some sure) := by
  unfold refMoves movesL
  exact List.filter_congr fun x _ => (moves_ref hs f0 f1 sure x).symm
theorem moves_few (s : Sd) (F : Int) (t : Option Bool) : (movesL s F t).length ≤ s.cols.length := by
  unfold movesL
  have := List.length_filter_le (fun x => moveB (cF (hT t s) (dAt s) F) s.n bigN s.cols.length s.K x) (List.range s.cols.length)
  simpa using this
set_option maxRecDepth 100000 in
set_option maxHeartbeats 4000000 in
theorem slopeMoves_walk (s : Sm) (f : Int) (w : World) (hok : SmOk s w) : Calls Try.prog 6 #[smV s, vi f] w fun e w' => e = .returned (.bool true) ∧ newer w w' := by
  have hnw := newer_allocH w (.cells (smC s) 24)
  have hxb := Whole.made w 24 (smC s)
  have H1 := Lib.hid (And.intro (hnw) (hxb))
  clear hnw hxb
  have HOK := Lib.hid hok
  have HFE := Lib.hid (few_any s _ (hok.next H1.out.1))
  clear hok
  have x0 := H1.out.2.at 0 (v := .slice s.a s.cs.length s.c) rfl
  have x1 := H1.out.2.at 1 (v := vi s.least) rfl
  cases hf : fewB s.sd with
  | false =>
    rw [hf] at HFE
    clear hf
    go_enter Try.func6, Try.ntmps6
    go_wp2_with fail
    refine (HFE.out).mono ?_
    rintro e w2 ⟨rfl, hb⟩
    have H3 := Lib.hid (And.intro ((newer_trans H1.out.1 hb)) ((H1.out.2.below hb H1.out.2.lt)))
    clear hb HFE H1 x0 x1
    go_wp2_with fail
    refine (wakes_any _).mono ?_
    rintro e w4 ⟨rfl, hb⟩
    have H5 := Lib.hid (And.intro ((newer_trans H3.out.1 hb)) ((H3.out.2.below hb H3.out.2.lt)))
    clear hb H3
    go_wp2_with fail
    go_ret
    exact ⟨rfl, H5.out.1⟩
  | true =>
    rw [hf] at HFE
    obtain ⟨few, hc15, hb8⟩ := thinS_few (few_thin hf)
    have HFW := Lib.hid few
    clear hf hc15 hb8
    have HAK : Hid (∀ W, newer w W → Calls Try.prog 32 #[smV s, vi f] W fun e w' => e = .returned (vi (askN s.sd f)) ∧ newer W w') := Lib.hid (fun W hW => lawAsked s f W (HOK.out.next hW) few)
    obtain ⟨ak, hak⟩ : ∃ ak, ak = askN s.sd f := ⟨_, rfl⟩
    rw [← hak] at HAK
    rw [ask_is] at hak
    by_cases hz : ak = 0
    · subst hz
      obtain ⟨hs, f0, f1⟩ := asked_zero hak.symm
      obtain ⟨LA, hLA⟩ : ∃ L : List Int, L = (movesL s.sd f (some true)).map fun x : Nat => (x : Int) := ⟨_, rfl⟩
      obtain ⟨LB, hLB⟩ : ∃ L : List Int, L = (movesL s.sd f (some false)).map fun x : Nat => (x : Int) := ⟨_, rfl⟩
      have HM : Hid (∀ (s2 : Sm) W, s2.sd = s.sd → SmOk s2 W → Calls Try.prog 35 #[smV s2, vi f] W fun e w' => ∃ A c B d, e = .returned (.tuple #[.slice A LA.length c, .slice B LB.length d, vi 0]) ∧ Row intL 1 w' w'.heap.size A LA ∧ Row intL 1 w' w'.heap.size B LB ∧ newer W w') := Lib.hid (fun s2 W h1 h2 => by
        refine (moves35_any s2 f W h2 (few_sd h1 few)).mono ?_
        rintro e w' ⟨h3, h4⟩
        unfold movesOut at h3
        rw [h1, ← hak, decide_eq_true rfl] at h3
        obtain ⟨A, c, B, d, rfl, h5, h6⟩ := h3
        obtain ⟨e1, h5⟩ := row_nats hLA h5
        obtain ⟨e2, h6⟩ := row_nats hLB h6
        exact ⟨A, c, B, d, by rw [e1, e2], h5, h6, h4⟩)
      have HAL : Hid (∀ W, newer w W → Calls Try.prog 28 #[smV s] W fun e w' => ∃ us A c, e = .returned (.slice A (us : List Su).length c) ∧ AllIn s us A w' ∧ newer W w') := Lib.hid (fun W hW => all_in s W (HOK.out.next hW) hs)
      have hcl : s.sd.cols.length ≤ 12 := hs.cols.2
      have hla := moves_few s.sd f (some true)
      have hlb := moves_few s.sd f (some false)
      have HLE := Lib.hid (show LA.length ≤ 12 ∧ LB.length ≤ 12 by rw [hLA, hLB, List.length_map, List.length_map]; omega)
      have HR1 : Hid (∀ (us : List Su) A c W, newer w W → AllIn s us A W → Calls Try.prog 37 #[smV s, .slice A us.length c, vi f, .bool true] W fun e w' => ∃ B d, e = .returned (.slice B LA.length d) ∧ Row intL 1 w' w'.heap.size B LA ∧ newer W w') := Lib.hid (fun us A c W hW h => by
        refine (refMoves_any s us A c (allR s.sd.n s.cs.length s.sd.K) f true W (HOK.out.next hW) hs h.row h.ok h.eq (fun u hu => (all_mem (hd_ok hs false).K0).1 hu) (h.few hs)).mono ?_
        rintro e w' ⟨B, d, rfl, h5, h6⟩
        rw [← sd_len, moves_eq hs f0 f1] at h5 ⊢
        obtain ⟨e1, h5⟩ := row_nats hLA h5
        exact ⟨B, d, by rw [e1], h5, h6⟩)
      have HR2 : Hid (∀ (us : List Su) A c W, newer w W → AllIn s us A W → Calls Try.prog 37 #[smV s, .slice A us.length c, vi f, .bool false] W fun e w' => ∃ B d, e = .returned (.slice B LB.length d) ∧ Row intL 1 w' w'.heap.size B LB ∧ newer W w') := Lib.hid (fun us A c W hW h => by
        refine (refMoves_any s us A c (allR s.sd.n s.cs.length s.sd.K) f false W (HOK.out.next hW) hs h.row h.ok h.eq (fun u hu => (all_mem (hd_ok hs false).K0).1 hu) (h.few hs)).mono ?_
        rintro e w' ⟨B, d, rfl, h5, h6⟩
        rw [← sd_len, moves_eq hs f0 f1] at h5 ⊢
        obtain ⟨e1, h5⟩ := row_nats hLB h5
        exact ⟨B, d, by rw [e1], h5, h6⟩)
      clear few hs f0 f1 hcl hla hlb hLA hLB hak
      go_enter Try.func6, Try.ntmps6
      go_wp2_with fail
      refine (HFE.out).mono ?_
      rintro e w14 ⟨rfl, hb⟩
      have H15 := Lib.hid (And.intro ((newer_trans H1.out.1 hb)) ((H1.out.2.below hb H1.out.2.lt)))
      clear hb HFE H1 x0 x1
      have x0 := H15.out.2.at 0 (v := .slice s.a s.cs.length s.c) rfl
      have x1 := H15.out.2.at 1 (v := vi s.least) rfl
      go_wp2_with fail
      refine (lawSlope s _ (HOK.out.next H15.out.1) HFW.out).mono ?_
      rintro e w16 ⟨s2, rfl, hd, hs2, hb⟩
      have HMM := Lib.hid (HM.out s2 _ hd hs2)
      have H17 := Lib.hid (And.intro ((newer_trans H15.out.1 hb)) ((H15.out.2.below hb H15.out.2.lt)))
      clear hb hd hs2 HM H15 x0 x1
      go_wp2_with fail
      refine (HMM.out).mono ?_
      rintro e w18 ⟨A1, c1, A2, c2, rfl, hr1, hr2, hb⟩
      have H19 := Lib.hid (And.intro ((newer_trans H17.out.1 hb)) (And.intro ((H17.out.2.below hb H17.out.2.lt)) (And.intro (hr1) (hr2))))
      clear hb HMM hr1 hr2 H17
      have x0 := H19.out.2.1.at 0 (v := .slice s.a s.cs.length s.c) rfl
      have x1 := H19.out.2.1.at 1 (v := vi s.least) rfl
      go_wp2_with fail
      refine (HAK.out _ H19.out.1).mono ?_
      rintro e w20 ⟨rfl, hb⟩
      have H21 := Lib.hid (And.intro ((newer_trans H19.out.1 hb)) (And.intro ((H19.out.2.1.below hb H19.out.2.1.lt)) (And.intro (((H19.out.2.2.1.below hb).more hb.size)) (((H19.out.2.2.2.below hb).more hb.size)))))
      clear hb HAK H19 x0 x1
      have x0 := H21.out.2.1.at 0 (v := .slice s.a s.cs.length s.c) rfl
      have x1 := H21.out.2.1.at 1 (v := vi s.least) rfl
      go_wp2_with fail
      refine (HAL.out _ H21.out.1).mono ?_
      rintro e w22 ⟨us, A, c, rfl, hall, hb⟩
      have H23 := Lib.hid (And.intro ((newer_trans H21.out.1 hb)) (And.intro ((H21.out.2.1.below hb H21.out.2.1.lt)) (And.intro (((H21.out.2.2.1.below hb).more hb.size)) (And.intro (((H21.out.2.2.2.below hb).more hb.size)) (hall)))))
      clear hb HAL hall H21 x0 x1
      have x0 := H23.out.2.1.at 0 (v := .slice s.a s.cs.length s.c) rfl
      have x1 := H23.out.2.1.at 1 (v := vi s.least) rfl
      go_wp2_with fail
      refine (HR1.out us A c _ H23.out.1 H23.out.2.2.2.2).mono ?_
      rintro e w24 ⟨A3, c3, rfl, hr3, hb⟩
      have H25 := Lib.hid (And.intro ((newer_trans H23.out.1 hb)) (And.intro ((H23.out.2.1.below hb H23.out.2.1.lt)) (And.intro (((H23.out.2.2.1.below hb).more hb.size)) (And.intro (((H23.out.2.2.2.1.below hb).more hb.size)) (And.intro ((H23.out.2.2.2.2.next hb)) (hr3))))))
      clear hb HR1 hr3 H23 x0 x1
      have HIN := Lib.hid (lawInts LA LA A1 A3 c1 c3 _ (by have := HLE.out; omega) (by have := HLE.out; omega) H25.out.2.2.1 H25.out.2.2.2.2.2)
      rw [decide_eq_true rfl] at HIN
      go_wp2_with fail
      refine (HIN.out).mono ?_
      rintro e w26 ⟨rfl, hb⟩
      have H27 := Lib.hid (And.intro ((newer_trans H25.out.1 hb)) (And.intro ((H25.out.2.1.below hb H25.out.2.1.lt)) (And.intro (((H25.out.2.2.2.1.below hb).more hb.size)) ((H25.out.2.2.2.2.1.next hb)))))
      clear hb HIN H25
      have x0 := H27.out.2.1.at 0 (v := .slice s.a s.cs.length s.c) rfl
      have x1 := H27.out.2.1.at 1 (v := vi s.least) rfl
      go_wp2_with fail
      refine (HR2.out us A c _ H27.out.1 H27.out.2.2.2).mono ?_
      rintro e w28 ⟨A4, c4, rfl, hr4, hb⟩
      have H29 := Lib.hid (And.intro ((newer_trans H27.out.1 hb)) (And.intro ((H27.out.2.1.below hb H27.out.2.1.lt)) (And.intro (((H27.out.2.2.1.below hb).more hb.size)) (And.intro ((H27.out.2.2.2.next hb)) (hr4)))))
      clear hb HR2 hr4 H27 x0 x1
      have HIN := Lib.hid (lawInts LB LB A2 A4 c2 c4 _ (by have := HLE.out; omega) (by have := HLE.out; omega) H29.out.2.2.1 H29.out.2.2.2.2)
      rw [decide_eq_true rfl] at HIN
      go_wp2_with fail
      refine (HIN.out).mono ?_
      rintro e w30 ⟨rfl, hb⟩
      have H31 := Lib.hid (And.intro ((newer_trans H29.out.1 hb)) (And.intro ((H29.out.2.1.below hb H29.out.2.1.lt)) ((H29.out.2.2.2.1.next hb))))
      clear hb HIN H29
      go_wp2_with fail
      refine (wakes_any _).mono ?_
      rintro e w32 ⟨rfl, hb⟩
      have H33 := Lib.hid (And.intro ((newer_trans H31.out.1 hb)) (And.intro ((H31.out.2.1.below hb H31.out.2.1.lt)) ((H31.out.2.2.next hb))))
      clear hb H31
      go_wp2_with fail
      go_ret
      exact ⟨rfl, H33.out.1⟩
    · have hz2 : (ak == 0) = false := by rw [beq_eq_false_iff_ne]; exact hz
      have hz3 : (ak != 0) = true := by simp [hz]
      have HM : Hid (∀ (s2 : Sm) W, s2.sd = s.sd → SmOk s2 W → Calls Try.prog 35 #[smV s2, vi f] W fun e w' => e = .returned (.tuple #[.slice none 0 0, .slice none 0 0, vi ak]) ∧ newer W w') := Lib.hid (fun s2 W h1 h2 => by
        refine (moves35_any s2 f W h2 (few_sd h1 few)).mono ?_
        rintro e w' ⟨h3, h4⟩
        unfold movesOut at h3
        rw [h1, ← hak, decide_eq_false hz] at h3
        exact ⟨h3, h4⟩)
      clear few hz hak
      go_enter Try.func6, Try.ntmps6
      go_wp2_with fail
      refine (HFE.out).mono ?_
      rintro e w34 ⟨rfl, hb⟩
      have H35 := Lib.hid (And.intro ((newer_trans H1.out.1 hb)) ((H1.out.2.below hb H1.out.2.lt)))
      clear hb HFE H1 x0 x1
      have x0 := H35.out.2.at 0 (v := .slice s.a s.cs.length s.c) rfl
      have x1 := H35.out.2.at 1 (v := vi s.least) rfl
      go_wp2_with fail
      refine (lawSlope s _ (HOK.out.next H35.out.1) HFW.out).mono ?_
      rintro e w36 ⟨s2, rfl, hd, hs2, hb⟩
      have HMM := Lib.hid (HM.out s2 _ hd hs2)
      have H37 := Lib.hid (And.intro ((newer_trans H35.out.1 hb)) ((H35.out.2.below hb H35.out.2.lt)))
      clear hb hd hs2 HM H35 x0 x1
      go_wp2_with fail
      refine (HMM.out).mono ?_
      rintro e w38 ⟨rfl, hb⟩
      have H39 := Lib.hid (And.intro ((newer_trans H37.out.1 hb)) ((H37.out.2.below hb H37.out.2.lt)))
      clear hb HMM H37
      have x0 := H39.out.2.at 0 (v := .slice s.a s.cs.length s.c) rfl
      have x1 := H39.out.2.at 1 (v := vi s.least) rfl
      go_wp2_with fail
      refine (HAK.out _ H39.out.1).mono ?_
      rintro e w40 ⟨rfl, hb⟩
      have H41 := Lib.hid (And.intro ((newer_trans H39.out.1 hb)) ((H39.out.2.below hb H39.out.2.lt)))
      clear hb HAK H39 x0 x1
      go_wp2_with fail
      refine (wakes_any _).mono ?_
      rintro e w42 ⟨rfl, hb⟩
      have H43 := Lib.hid (And.intro ((newer_trans H41.out.1 hb)) ((H41.out.2.below hb H41.out.2.lt)))
      clear hb H41
      go_wp2_with fail
      go_ret
      exact ⟨rfl, H43.out.1⟩

end Go.Proofs.Ytkenokpobbichaa
