/- Is a slope not valid, or small? -/
import Derived.Test.YtkenokpobbichaaAP
import Derived.Test.YtkenokpobbichaaAI
namespace Go.Proofs.Ytkenokpobbichaa
open Go.RowKit Go.Shelf Go.Deep

/-- Not valid, or small. -/
def fewB (s : Sd) : Bool := if thinS s && slopeB s then (decide ((s.cols.length : Int) ≤ 6) && decide ((s.n : Int) ≤ 3)) || decide ((s.cols.length : Int) ≤ 4) else thinS s
theorem few_thin {s : Sd} (h : fewB s = true) : thinS s = true := by
  unfold fewB at h
  cases ht : thinS s with
  | true => rfl
  | false =>
    rw [ht] at h
    simp at h
set_option maxRecDepth 100000 in
set_option maxHeartbeats 1000000 in
theorem few_any (s : Sm) (w : World) (hok : SmOk s w) : Calls Try.prog 24 #[smV s] w fun e w' => e = .returned (.bool (fewB s.sd)) ∧ newer w w' := by
  have H0 := Lib.hid (And.intro (newer_allocH w (.cells (smC s) 24)) (Whole.made w 24 (smC s)))
  have HOK := Lib.hid hok
  have HTH : Hid (∀ W, newer w W → Calls Try.prog 16 #[smV s] W fun e w' => e = .returned (.bool (thinS s.sd)) ∧ newer W w') := Lib.hid (fun W hW => lawThin s W (HOK.out.next hW))
  have x0 := H0.out.2.at 0 (v := .slice s.a s.cs.length s.c) rfl
  have x1 := H0.out.2.at 1 (v := vi s.least) rfl
  unfold fewB
  cases ht : thinS s.sd with
  | false =>
    rw [ht] at HTH
    clear ht hok
    go_enter Try.func24, Try.ntmps24
    go_wp2_with fail
    refine (HTH.out _ H0.out.1).mono ?_
    rintro e w2 ⟨rfl, hb⟩
    have H2 := Lib.hid (And.intro (newer_trans H0.out.1 hb) (H0.out.2.below hb H0.out.2.lt))
    clear x0 x1 hb H0
    have x0 := H2.out.2.at 0 (v := .slice s.a s.cs.length s.c) rfl
    have x1 := H2.out.2.at 1 (v := vi s.least) rfl
    go_wp2_with fail
    refine (HTH.out _ H2.out.1).mono ?_
    rintro e w3 ⟨rfl, hb⟩
    have H3 := Lib.hid (newer_trans H2.out.1 hb)
    clear x0 x1 hb H2
    go_wp2_with fail
    go_ret
    exact ⟨rfl, H3.out⟩
  | true =>
    obtain ⟨few, hc15, hb8⟩ := thinS_few ht
    have HRI : Hid (∀ W, newer w W → Calls Try.prog 26 #[smV s] W fun e w' => e = .returned (.bool (slopeB s.sd)) ∧ newer W w') := Lib.hid (fun W hW => right_any s W (HOK.out.next hW) few)
    rw [ht] at HTH
    cases hr : slopeB s.sd with
    | false =>
      rw [hr] at HRI
      clear ht hok few hc15 hb8 hr
      go_enter Try.func24, Try.ntmps24
      go_wp2_with fail
      refine (HTH.out _ H0.out.1).mono ?_
      rintro e w2 ⟨rfl, hb⟩
      have H2 := Lib.hid (And.intro (newer_trans H0.out.1 hb) (H0.out.2.below hb H0.out.2.lt))
      clear x0 x1 hb H0
      have x0 := H2.out.2.at 0 (v := .slice s.a s.cs.length s.c) rfl
      have x1 := H2.out.2.at 1 (v := vi s.least) rfl
      go_wp2_with fail
      refine (HRI.out _ H2.out.1).mono ?_
      rintro e w3 ⟨rfl, hb⟩
      have H3 := Lib.hid (And.intro (newer_trans H2.out.1 hb) (H2.out.2.below hb H2.out.2.lt))
      clear x0 x1 hb H2
      have x0 := H3.out.2.at 0 (v := .slice s.a s.cs.length s.c) rfl
      have x1 := H3.out.2.at 1 (v := vi s.least) rfl
      go_wp2_with fail
      refine (HTH.out _ H3.out.1).mono ?_
      rintro e w4 ⟨rfl, hb⟩
      have H4 := Lib.hid (newer_trans H3.out.1 hb)
      clear x0 x1 hb H3
      go_wp2_with fail
      go_ret
      exact ⟨rfl, H4.out⟩
    | true =>
      rw [hr] at HRI
      have hs := sdOk_iff.1 hr
      have hcl : s.cs.length ≤ 12 ∧ 1 ≤ s.cs.length := by have h1 := hs.cols; rw [sd_len] at h1; omega
      obtain ⟨y0, hy0⟩ := get_of_lt (l := s.cs) (k := 0) (by omega)
      have hyn : y0.beds.length = s.sd.n := (sd_n hy0).symm
      obtain ⟨b1, o1, ea, _, cy⟩ := rowC hok.cs hy0
      simp only [Nat.add_zero] at cy
      obtain ⟨n, hn⟩ : ∃ n, n = s.sd.n := ⟨_, rfl⟩
      rw [hyn, ← hn] at cy
      rw [← hn, sd_len]
      obtain ⟨r, hr2⟩ : ∃ r, r = (if (true && true) = true then decide ((s.cs.length : Int) ≤ 6) && decide ((n : Int) ≤ 3) || decide ((s.cs.length : Int) ≤ 4) else true) := ⟨_, rfl⟩
      rw [← hr2]
      have HV := Lib.hid (show r = (decide ((s.cs.length : Int) ≤ 6) && decide ((n : Int) ≤ 3) || decide ((s.cs.length : Int) ≤ 4)) from hr2)
      clear hr2
      have HCY := Lib.hid cy
      have HSA := Lib.hid ea
      have hcne : ¬ (s.cs = []) := by intro h; rw [h] at hcl; simp at hcl
      clear ht hok few hc15 hb8 hr hs hy0 hyn ea hn cy
      go_enter Try.func24, Try.ntmps24
      go_wp2_with fail
      refine (HTH.out _ H0.out.1).mono ?_
      rintro e w2 ⟨rfl, hb⟩
      have H2 := Lib.hid (And.intro (newer_trans H0.out.1 hb) (H0.out.2.below hb H0.out.2.lt))
      clear x0 x1 hb H0
      have x0 := H2.out.2.at 0 (v := .slice s.a s.cs.length s.c) rfl
      have x1 := H2.out.2.at 1 (v := vi s.least) rfl
      go_wp2_with fail
      refine (HRI.out _ H2.out.1).mono ?_
      rintro e w3 ⟨rfl, hb⟩
      have H3 := Lib.hid (And.intro (newer_trans H2.out.1 hb) (H2.out.2.below hb H2.out.2.lt))
      clear x0 x1 hb H2
      have x0 := H3.out.2.at 0 (v := .slice s.a s.cs.length s.c) rfl
      rw [HSA.out] at x0
      have cy := keep_cell HCY.out H3.out.1
      go_upto_region 3 with fail
      refine wp_words (by kernel_rfl) (region_told 9 (by kernel_rfl) (by kernel_rfl) (fun W => Below w3.heap.size w3 W) newer (pickD [vIs (.pointer (some ⟨w.heap.size, 0, none⟩)), vIs (.slice (some ⟨b1, o1, none⟩) s.cs.length s.c), vIs (.int .i64 s.cs.length), vIs (.pointer (some ⟨w.heap.size, 0, none⟩)), vIs (.slice (some ⟨b1, o1, none⟩) s.cs.length s.c), vIs (.pointer (some ⟨b1, o1, none⟩)), vIs (.slice y0.a n y0.cp), vIs (.int .i64 n), vIs (.int .i64 s.cs.length)]) (fun h k => newer_trans h k) (pickD_stable _ ⟨vIs_st, vIs_st, vIs_st, vIs_st, vIs_st, vIs_st, vIs_st, vIs_st, vIs_st, trivial⟩) (Below.refl _ w3).drew (Below.refl _ _) ?_ ?_)
      · refine ⟨?_, ?_, ?_, ?_, ?_, ?_, ?_, ?_, ?_, trivial⟩
        · intro a W hG hR hO hp
          have h1 := hO.slot 1 (by kernel_rfl)
          refine wp_yields (v := .pointer (some ⟨w.heap.size, 0, none⟩)) ?_ ⟨_, rfl, rfl, Below.refl _ _, hG⟩
          simp [slotOf] at h1
          simp [execOp, go_sem, h1]
        · intro a W hG hR hO hp
          have h15 : slotOf a 15 = .pointer (some ⟨w.heap.size, 0, none⟩) := hp.1
          have c0 := keep_cell x0 hG
          refine wp_yields (v := .slice (some ⟨b1, o1, none⟩) s.cs.length s.c) ?_ ⟨_, rfl, rfl, Below.refl _ _, hG⟩
          simp [slotOf] at h15
          simp [execOp, go_sem, h15, c0]
        · intro a W hG hR hO hp
          have h16 : slotOf a 16 = .slice (some ⟨b1, o1, none⟩) s.cs.length s.c := hp.1
          refine wp_yields (v := .int .i64 s.cs.length) ?_ ⟨_, rfl, rfl, Below.refl _ _, hG⟩
          simp [slotOf] at h16
          simp [go_sem, h16]
        · intro a W hG hR hO hp
          have h1 := hO.slot 1 (by kernel_rfl)
          refine wp_yields (v := .pointer (some ⟨w.heap.size, 0, none⟩)) ?_ ⟨_, rfl, rfl, Below.refl _ _, hG⟩
          simp [slotOf] at h1
          simp [execOp, go_sem, h1]
        · intro a W hG hR hO hp
          have h18 : slotOf a 18 = .pointer (some ⟨w.heap.size, 0, none⟩) := hp.1
          have c0 := keep_cell x0 hG
          refine wp_yields (v := .slice (some ⟨b1, o1, none⟩) s.cs.length s.c) ?_ ⟨_, rfl, rfl, Below.refl _ _, hG⟩
          simp [slotOf] at h18
          simp [execOp, go_sem, h18, c0]
        · intro a W hG hR hO hp
          have h19 : slotOf a 19 = .slice (some ⟨b1, o1, none⟩) s.cs.length s.c := hp.1
          refine wp_yields (v := .pointer (some ⟨b1, o1, none⟩)) ?_ ⟨_, rfl, rfl, Below.refl _ _, hG⟩
          simp [slotOf] at h19
          simp [execOp, go_sem, h19, hcne]
        · intro a W hG hR hO hp
          have h20 : slotOf a 20 = .pointer (some ⟨b1, o1, none⟩) := hp.1
          have c0 := keep_cell cy hG
          refine wp_yields (v := .slice y0.a n y0.cp) ?_ ⟨_, rfl, rfl, Below.refl _ _, hG⟩
          simp [slotOf] at h20
          simp [execOp, go_sem, h20, c0]
        · intro a W hG hR hO hp
          have h21 : slotOf a 21 = .slice y0.a n y0.cp := hp.1
          refine wp_yields (v := .int .i64 n) ?_ ⟨_, rfl, rfl, Below.refl _ _, hG⟩
          simp [slotOf] at h21
          simp [go_sem, h21]
        · intro a W hG hR hO hp
          have h17 : slotOf a 17 = .int .i64 s.cs.length := hp.1
          refine wp_yields (v := .int .i64 s.cs.length) ?_ ⟨_, rfl, rfl, Below.refl _ _, hG⟩
          simp [slotOf] at h17
          simp [execOp, go_sem, h17]
      · intro wz hG hR
        rintro _ rfl _ rfl _ rfl _ rfl _ rfl _ rfl _ rfl _ rfl _ rfl
        change wpList _ _ _ _ _ _
        simp only [Act.put, List.setIfInBounds_toArray, List.set_cons_zero, List.set_cons_succ, List.drop_succ_cons, List.drop_zero]
        have H4 := Lib.hid (newer_trans H3.out.1 hG)
        clear hG hR x0 cy H3
        by_cases h1 : (s.cs.length : Int) ≤ 6
        · by_cases h2 : (n : Int) ≤ 3
          · have HR := Lib.hid (show r = true by rw [HV.out, decide_eq_true h1, decide_eq_true h2]; rfl)
            go_wp2_with fail
            go_ret
            exact ⟨by rw [HR.out]; rfl, H4.out⟩
          · have HR := Lib.hid (show r = decide ((s.cs.length : Int) ≤ 4) by rw [HV.out, decide_eq_true h1, decide_eq_false h2]; rfl)
            go_wp2_with fail
            go_ret
            exact ⟨by rw [HR.out]; rfl, H4.out⟩
        · have HR := Lib.hid (show r = decide ((s.cs.length : Int) ≤ 4) by rw [HV.out, decide_eq_false h1]; rfl)
          go_wp2_with fail
          go_ret
          exact ⟨by rw [HR.out]; rfl, H4.out⟩

end Go.Proofs.Ytkenokpobbichaa
