/- Is a surface one of a slope, by the reference; the error of a slope with a surface. -/
import Derived.Test.YtkenokpobbichaaAA
namespace Go.Proofs.Ytkenokpobbichaa
open Go.RowKit Go.Shelf Go.Deep

set_option maxRecDepth 100000 in
set_option maxHeartbeats 2000000 in
theorem isSurface_any (s : Sm) (u : Su) (w : World) (hok : SmOk s w) (hu : SuOk u w) (hs : SdOk s.sd) (hul : u.beds.length ≤ 1000) : Calls Try.prog 30 #[smV s, suV u] w fun e w' => e = .returned (.bool (surfB s.sd u.frm u.beds)) ∧ newer w w' := by
  have hcl : s.cs.length ≤ 12 ∧ 1 ≤ s.cs.length := by have h1 := hs.cols; rw [sd_len] at h1; omega
  have hnw : newer w ((w.alloc (.cells (smC s) 24)).alloc (.cells (suC u) 27)) := newer_trans (newer_allocH _ _) (newer_allocH _ _)
  have hxb := (Whole.made w 24 (smC s)).alloc (.cells (suC u) 27)
  have hub := Whole.made (w.alloc (.cells (smC s) 24)) 27 (suC u)
  rw [World.size_alloc] at hub
  have H0 := Lib.hid (And.intro hnw (And.intro hxb hub))
  obtain ⟨y0, hy0⟩ := get_of_lt (l := s.cs) (k := 0) (by omega)
  have hyn : y0.beds.length = s.sd.n := (sd_n hy0).symm
  obtain ⟨b1, o1, ea, _, cy⟩ := rowC (hok.next hnw).cs hy0
  simp only [Nat.add_zero] at cy
  have x0 := hxb.at 0 (v := .slice s.a s.cs.length s.c) rfl
  rw [ea] at x0
  have HSA := Lib.hid ea
  have x1 := hxb.at 1 (v := vi s.least) rfl
  have u0 := hub.at 0 (v := vi u.frm) rfl
  have u1 := hub.at 1 (v := .slice u.a u.beds.length u.c) rfl
  obtain ⟨n, hn⟩ : ∃ n, n = s.sd.n := ⟨_, rfl⟩
  have hnb : 1 ≤ n ∧ n ≤ 5 := by rw [hn]; exact hs.beds
  rw [hyn, ← hn] at cy
  unfold surfB
  rw [sd_len, ← hn, show s.sd.least = s.least from rfl]
  have HU := Lib.hid (hu.next hnw)
  have hcne : ¬ (s.cs = []) := by intro h; rw [h] at hcl; simp at hcl
  have hls := hs.least
  have hls2 : s.sd.least = s.least := rfl
  rw [hls2] at hls
  have C1 := Lib.hid (fun W => in_any u.frm 0 ((s.cs.length : Int) - u.beds.length) W)
  clear hok hu hs hnw hxb hub hy0 hyn hn ea hls2
  by_cases h2 : (u.beds.length : Int) < s.least
  · rw [decide_eq_false (by omega : ¬ s.least ≤ u.beds.length), Bool.and_false, Bool.false_and, Bool.false_and]
    go_enter Try.func30, Try.ntmps30
    go_wp2_with fail
    go_ret
    exact ⟨rfl, H0.out.1⟩
  · rw [decide_eq_true (by omega : s.least ≤ u.beds.length)]
    by_cases h3 : (s.cs.length : Int) < u.beds.length
    · have hz : (decide (0 ≤ u.frm) && true && decide (u.frm ≤ s.cs.length - u.beds.length) && goodB u.beds.length (okB n u.beds)) = false := by
        by_cases h4 : 0 ≤ u.frm
        · rw [decide_eq_false (by omega : ¬ u.frm ≤ s.cs.length - u.beds.length), Bool.and_false, Bool.false_and]
        · rw [decide_eq_false h4]; rfl
      rw [hz]
      clear hz
      go_enter Try.func30, Try.ntmps30
      go_wp2_with fail
      go_ret
      exact ⟨rfl, H0.out.1⟩
    · have hz : (decide (0 ≤ u.frm) && true && decide (u.frm ≤ s.cs.length - u.beds.length) && goodB u.beds.length (okB n u.beds)) = (inB u.frm 0 ((s.cs.length : Int) - u.beds.length) && goodB u.beds.length (okB n u.beds)) := by
        rw [Bool.and_true]
        rfl
      rw [hz]
      clear hz
      cases q0 : inB u.frm 0 ((s.cs.length : Int) - u.beds.length) with
      | false =>
        rw [q0] at C1
        rw [Bool.false_and]
        clear q0
        go_enter Try.func30, Try.ntmps30
        go_wp2_with fail
        refine (C1.out _).mono ?_
        rintro e w2 ⟨rfl, rfl⟩
        go_wp2_with fail
        go_ret
        exact ⟨rfl, H0.out.1⟩
      | true =>
        rw [q0] at C1
        rw [Bool.true_and]
        clear q0
        have HQ : Hid (∀ k, k < u.beds.length → okB n u.beds k = false → goodB u.beds.length (okB n u.beds) = false) := Lib.hid (fun k hk h => goodB_false hk h)
        have HQ2 : Hid (goodTo (okB n u.beds) u.beds.length → goodB u.beds.length (okB n u.beds) = true) := Lib.hid (fun h => goodB_true h)
        obtain ⟨r, hr⟩ : ∃ r, r = goodB u.beds.length (okB n u.beds) := ⟨_, rfl⟩
        rw [← hr] at HQ HQ2 ⊢
        clear hr
        obtain ⟨ub, uo, eu, _⟩ := row1k HU.out (k := 0) (by omega)
        rw [eu] at u1
        have HEU := Lib.hid eu
        have HCY := Lib.hid cy
        clear eu cy
        go_enter Try.func30, Try.ntmps30
        go_wp2_with fail
        refine (C1.out _).mono ?_
        rintro e w2 ⟨rfl, rfl⟩
        go_wp2_with fail
        go_loopw [6] (fun s6 wr => ∃ k : Nat, k ≤ u.beds.length ∧ s6 = vi k ∧ goodTo (okB n u.beds) k ∧ newer w wr ∧ Whole wr w.heap.size 24 (smC s) ∧ Whole wr (w.heap.size + 1) 27 (suC u) ∧ newer ((w.alloc (.cells (smC s) 24)).alloc (.cells (suC u) 27)) wr) (fun s6 _ => u.beds.length - (intOf s6).toNat)
        case atStart => exact ⟨0, Nat.zero_le _, rfl, goodTo_zero _, H0.out.1, H0.out.2.1, H0.out.2.2, Below.refl _ _⟩
        case round =>
          obtain ⟨k, hk, rfl, q2, q3, q4, q5, q6⟩ := hrel
          clear x0 x1 u0 u1 H0
          by_cases hlt : k < u.beds.length
          · have x0 := q4.at 0 (v := .slice s.a s.cs.length s.c) rfl
            rw [HSA.out] at x0
            obtain ⟨b2, o2, e2, d0⟩ := row1k (HU.out.below q6) hlt
            rw [HEU.out] at e2
            obtain ⟨rfl, rfl⟩ : ub = b2 ∧ uo = o2 := by simpa using e2
            have u1 := q5.at 1 (v := .slice u.a u.beds.length u.c) rfl
            rw [HEU.out] at u1
            have cy := keep_cell HCY.out q6
            have hki : (k : Int) < u.beds.length := by omega
            have c47 : IntKind.i64.wrap ((n : Int) - 1) = (n : Int) - 1 := IntWalk.i64_in _ (by omega)
            have HG := Lib.hid (And.intro q2 q3)
            have HW := Lib.hid (And.intro q4 (And.intro q5 q6))
            have hok : okB n u.beds k = (inB (iAt u.beds k) 0 ((n : Int) - 1) && (decide (k = 0) || inB (iAt u.beds k - iAt u.beds (k - 1)) (-1) 1)) := rfl
            clear e2 q2 q3 q4 q5 q6
            obtain ⟨p, hp⟩ : ∃ p, p = iAt u.beds k := ⟨_, rfl⟩
            rw [← hp] at d0 hok
            have HC1 := Lib.hid (fun W => in_any p 0 ((n : Int) - 1) W)
            cases hq : inB p 0 ((n : Int) - 1) with
            | false =>
              rw [hq] at HC1 hok
              have hr2 : r = false := HQ.out k hlt hok
              subst hr2
              clear hok hq hp
              go_upto_region 7 with fail
              refine wp_words (by kernel_rfl) (region_told_u 32 (by kernel_rfl) (by kernel_rfl) [false, false, false, false, false, false, false, false, false, false, false, false, false, false, true, true, true, true, true, true, true, true, true, true, true, true, true, true, true, true, true, true] (fun W => Below wr.heap.size wr W) newer [vIs (.pointer (some ⟨(w.heap.size + 1), 1, none⟩)), vIs (.slice (some ⟨ub, uo, none⟩) u.beds.length u.c), vIs (.int .i64 k), vIs (.pointer (some ⟨ub, uo + k, none⟩)), vIs (vi p), vIs (.pointer (some ⟨w.heap.size, 0, none⟩)), vIs (.slice (some ⟨b1, o1, none⟩) s.cs.length s.c), vIs (.pointer (some ⟨b1, o1, none⟩)), vIs (.slice y0.a n y0.cp), vIs (.int .i64 n), vIs (vi ((n : Int) - 1)), vIs (.bool false), vIs (.bool true), vIs (.bool true), vIs (undef), vIs (undef), vIs (undef), vIs (undef), vIs (undef), vIs (undef), vIs (undef), vIs (undef), vIs (undef), vIs (undef), vIs (undef), vIs (undef), vIs (undef), vIs (undef), vIs (undef), vIs (undef), vIs (undef), vIs (undef)] ⟨rfl, rfl, rfl, rfl, rfl, rfl, rfl, rfl, rfl, rfl, rfl, rfl, rfl, rfl, (fun v W h => by obtain rfl : v = _ := h; simp), (fun v W h => by obtain rfl : v = _ := h; simp), (fun v W h => by obtain rfl : v = _ := h; simp), (fun v W h => by obtain rfl : v = _ := h; simp [undef]), (fun v W h => by obtain rfl : v = _ := h; simp [undef]), (fun v W h => by obtain rfl : v = _ := h; simp [undef]), (fun v W h => by obtain rfl : v = _ := h; simp [undef]), (fun v W h => by obtain rfl : v = _ := h; simp [undef]), (fun v W h => by obtain rfl : v = _ := h; simp [undef]), (fun v W h => by obtain rfl : v = _ := h; simp [undef]), (fun v W h => by obtain rfl : v = _ := h; simp [undef]), (fun v W h => by obtain rfl : v = _ := h; simp [undef]), (fun v W h => by obtain rfl : v = _ := h; simp [undef]), (fun v W h => by obtain rfl : v = _ := h; simp [undef]), (fun v W h => by obtain rfl : v = _ := h; simp [undef]), (fun v W h => by obtain rfl : v = _ := h; simp [undef]), (fun v W h => by obtain rfl : v = _ := h; simp [undef]), (fun v W h => by obtain rfl : v = _ := h; simp), trivial⟩ ⟨(fun h => Bool.noConfusion (show false = true from h)), (fun h => Bool.noConfusion (show false = true from h)), (fun h => Bool.noConfusion (show false = true from h)), (fun h => Bool.noConfusion (show false = true from h)), (fun h => Bool.noConfusion (show false = true from h)), (fun h => Bool.noConfusion (show false = true from h)), (fun h => Bool.noConfusion (show false = true from h)), (fun h => Bool.noConfusion (show false = true from h)), (fun h => Bool.noConfusion (show false = true from h)), (fun h => Bool.noConfusion (show false = true from h)), (fun h => Bool.noConfusion (show false = true from h)), (fun h => Bool.noConfusion (show false = true from h)), (fun h => Bool.noConfusion (show false = true from h)), (fun h => Bool.noConfusion (show false = true from h)), (fun _ _ => rfl), (fun _ _ => rfl), (fun _ _ => rfl), (fun _ _ => rfl), (fun _ _ => rfl), (fun _ _ => rfl), (fun _ _ => rfl), (fun _ _ => rfl), (fun _ _ => rfl), (fun _ _ => rfl), (fun _ _ => rfl), (fun _ _ => rfl), (fun _ _ => rfl), (fun _ _ => rfl), (fun _ _ => rfl), (fun _ _ => rfl), (fun _ _ => rfl), (fun _ _ => rfl), trivial⟩ (fun h k => newer_trans h k) (pickD_stable _ ⟨vIs_st, vIs_st, vIs_st, vIs_st, vIs_st, vIs_st, vIs_st, vIs_st, vIs_st, vIs_st, vIs_st, vIs_st, vIs_st, vIs_st, vIs_st, vIs_st, vIs_st, vIs_st, vIs_st, vIs_st, vIs_st, vIs_st, vIs_st, vIs_st, vIs_st, vIs_st, vIs_st, vIs_st, vIs_st, vIs_st, vIs_st, vIs_st, trivial⟩) (Below.refl _ wr).drew (Below.refl _ _) ?_ ?_)
              · refine ⟨.inr ?_, .inr ?_, .inr ?_, .inr ?_, .inr ?_, .inr ?_, .inr ?_, .inr ?_, .inr ?_, .inr ?_, .inr ?_, .inr ?_, .inr ?_, .inr ?_, .inl rfl, .inl rfl, .inl rfl, .inl rfl, .inl rfl, .inl rfl, .inl rfl, .inl rfl, .inl rfl, .inl rfl, .inl rfl, .inl rfl, .inl rfl, .inl rfl, .inl rfl, .inl rfl, .inl rfl, .inl rfl, trivial⟩
                · intro a W hG hR hO hp
                  have h3 := hO.slot 3 (by kernel_rfl)
                  refine wp_yields (v := .pointer (some ⟨(w.heap.size + 1), 1, none⟩)) ?_ ⟨_, rfl, rfl, Below.refl _ _, hG⟩
                  simp [slotOf] at h3
                  simp [execOp, go_sem, h3]
                · intro a W hG hR hO hp
                  have h37 : slotOf a 37 = .pointer (some ⟨(w.heap.size + 1), 1, none⟩) := hp.1
                  have c0 := keep_cell u1 hG
                  refine wp_yields (v := .slice (some ⟨ub, uo, none⟩) u.beds.length u.c) ?_ ⟨_, rfl, rfl, Below.refl _ _, hG⟩
                  simp [slotOf] at h37
                  simp [execOp, go_sem, h37, c0]
                · intro a W hG hR hO hp
                  have h6 := hO.slot 6 (by kernel_rfl)
                  refine wp_yields (v := .int .i64 k) ?_ ⟨_, rfl, rfl, Below.refl _ _, hG⟩
                  simp [slotOf] at h6
                  simp [execOp, go_sem, h6]
                · intro a W hG hR hO hp
                  have h38 : slotOf a 38 = .slice (some ⟨ub, uo, none⟩) u.beds.length u.c := hp.1
                  have h39 : slotOf a 39 = .int .i64 k := hp.2.1
                  refine wp_yields (v := .pointer (some ⟨ub, uo + k, none⟩)) ?_ ⟨_, rfl, rfl, Below.refl _ _, hG⟩
                  simp [slotOf] at h38 h39
                  simp [execOp, go_sem, h38, h39, hki]
                · intro a W hG hR hO hp
                  have h40 : slotOf a 40 = .pointer (some ⟨ub, uo + k, none⟩) := hp.1
                  have c0 := keep_cell d0 hG
                  refine wp_yields (v := vi p) ?_ ⟨_, rfl, rfl, Below.refl _ _, hG⟩
                  simp [slotOf] at h40
                  simp [execOp, go_sem, h40, c0]
                · intro a W hG hR hO hp
                  have h2 := hO.slot 2 (by kernel_rfl)
                  refine wp_yields (v := .pointer (some ⟨w.heap.size, 0, none⟩)) ?_ ⟨_, rfl, rfl, Below.refl _ _, hG⟩
                  simp [slotOf] at h2
                  simp [execOp, go_sem, h2]
                · intro a W hG hR hO hp
                  have h42 : slotOf a 42 = .pointer (some ⟨w.heap.size, 0, none⟩) := hp.1
                  have c0 := keep_cell x0 hG
                  refine wp_yields (v := .slice (some ⟨b1, o1, none⟩) s.cs.length s.c) ?_ ⟨_, rfl, rfl, Below.refl _ _, hG⟩
                  simp [slotOf] at h42
                  simp [execOp, go_sem, h42, c0]
                · intro a W hG hR hO hp
                  have h43 : slotOf a 43 = .slice (some ⟨b1, o1, none⟩) s.cs.length s.c := hp.1
                  refine wp_yields (v := .pointer (some ⟨b1, o1, none⟩)) ?_ ⟨_, rfl, rfl, Below.refl _ _, hG⟩
                  simp [slotOf] at h43
                  simp [execOp, go_sem, h43, hcne]
                · intro a W hG hR hO hp
                  have h44 : slotOf a 44 = .pointer (some ⟨b1, o1, none⟩) := hp.1
                  have c0 := keep_cell cy hG
                  refine wp_yields (v := .slice y0.a n y0.cp) ?_ ⟨_, rfl, rfl, Below.refl _ _, hG⟩
                  simp [slotOf] at h44
                  simp [execOp, go_sem, h44, c0]
                · intro a W hG hR hO hp
                  have h45 : slotOf a 45 = .slice y0.a n y0.cp := hp.1
                  refine wp_yields (v := .int .i64 n) ?_ ⟨_, rfl, rfl, Below.refl _ _, hG⟩
                  simp [slotOf] at h45
                  simp [go_sem, h45]
                · intro a W hG hR hO hp
                  have h46 : slotOf a 46 = .int .i64 n := hp.1
                  refine wp_yields (v := vi ((n : Int) - 1)) ?_ ⟨_, rfl, rfl, Below.refl _ _, hG⟩
                  simp [slotOf] at h46
                  simp [execOp, go_sem, h46, c47]
                · intro a W hG hR hO hp
                  have h41 : slotOf a 41 = vi p := hp.1
                  have h47 : slotOf a 47 = vi ((n : Int) - 1) := hp.2.1
                  refine wp_enters (f := 50) (args := #[vi p, vi 0, vi ((n : Int) - 1)]) ?_ ((HC1.out W).mono ?_)
                  · simp [slotOf] at h41 h47
                    simp [go_sem, h41, h47]
                  · rintro e w' ⟨rfl, rfl⟩
                    exact ⟨_, rfl, _, rfl, rfl, Below.refl _ _, hG⟩
                · intro a W hG hR hO hp
                  have h48 : slotOf a 48 = .bool false := hp.1
                  refine wp_yields (v := .bool true) ?_ ⟨_, rfl, rfl, Below.refl _ _, hG⟩
                  simp [slotOf] at h48
                  simp [execOp, go_sem, h48]
                · intro a W hG hR hO hp
                  have h49 : slotOf a 49 = .bool true := hp.1
                  refine wp_yields (v := .bool true) ?_ ⟨_, rfl, rfl, Below.refl _ _, hG⟩
                  simp [slotOf] at h49
                  simp [execOp, go_sem, h49]
              · intro W hG hR
                rintro _ rfl _ rfl _ rfl _ rfl _ rfl _ rfl _ rfl _ rfl _ rfl _ rfl _ rfl _ rfl _ rfl _ rfl _ rfl _ rfl _ rfl _ rfl _ rfl _ rfl _ rfl _ rfl _ rfl _ rfl _ rfl _ rfl _ rfl _ rfl _ rfl _ rfl _ rfl _ rfl
                change wpList _ _ _ _ _ _
                simp only [Act.put, List.setIfInBounds_toArray, List.set_cons_zero, List.set_cons_succ, List.drop_succ_cons, List.drop_zero]
                have HE := Lib.hid (newer_trans HG.out.2 hG)
                clear hG hR x0 u1 cy d0 c47
                go_wp2_with fail
                go_ret
                exact ⟨rfl, HE.out⟩
            | true =>
              rw [hq] at HC1 hok
              have hpb : 0 ≤ p ∧ p ≤ (n : Int) - 1 := by simpa [inB] using hq
              by_cases hk0 : k = 0
              · have HS := Lib.hid (goodTo_succ HG.out.1 (by rw [hok, decide_eq_true hk0]; rfl))
                have HKP := Lib.hid hk0
                clear hok hq hp hk0
                go_upto_region 7 with fail
                refine wp_words (by kernel_rfl) (region_told_u 32 (by kernel_rfl) (by kernel_rfl) [false, false, false, false, false, false, false, false, false, false, false, false, false, false, false, false, false, true, true, true, true, true, true, true, true, true, true, true, true, true, true, false] (fun W => Below wr.heap.size wr W) newer [vIs (.pointer (some ⟨(w.heap.size + 1), 1, none⟩)), vIs (.slice (some ⟨ub, uo, none⟩) u.beds.length u.c), vIs (.int .i64 k), vIs (.pointer (some ⟨ub, uo + k, none⟩)), vIs (vi p), vIs (.pointer (some ⟨w.heap.size, 0, none⟩)), vIs (.slice (some ⟨b1, o1, none⟩) s.cs.length s.c), vIs (.pointer (some ⟨b1, o1, none⟩)), vIs (.slice y0.a n y0.cp), vIs (.int .i64 n), vIs (vi ((n : Int) - 1)), vIs (.bool true), vIs (.bool false), vIs (.bool false), vIs (.int .i64 k), vIs (.bool false), vIs (.bool false), vIs (undef), vIs (undef), vIs (undef), vIs (undef), vIs (undef), vIs (undef), vIs (undef), vIs (undef), vIs (undef), vIs (undef), vIs (undef), vIs (undef), vIs (undef), vIs (undef), vIs (.bool false)] ⟨rfl, rfl, rfl, rfl, rfl, rfl, rfl, rfl, rfl, rfl, rfl, rfl, rfl, rfl, (fun v W h => by obtain rfl : v = _ := h; rfl), (fun v W h => by obtain rfl : v = _ := h; rfl), (fun v W h => by obtain rfl : v = _ := h; rfl), (fun v W h => by obtain rfl : v = _ := h; simp), (fun v W h => by obtain rfl : v = _ := h; simp), (fun v W h => by obtain rfl : v = _ := h; simp), (fun v W h => by obtain rfl : v = _ := h; simp), (fun v W h => by obtain rfl : v = _ := h; simp), (fun v W h => by obtain rfl : v = _ := h; simp), (fun v W h => by obtain rfl : v = _ := h; simp), (fun v W h => by obtain rfl : v = _ := h; simp), (fun v W h => by obtain rfl : v = _ := h; simp), (fun v W h => by obtain rfl : v = _ := h; simp), (fun v W h => by obtain rfl : v = _ := h; simp), (fun v W h => by obtain rfl : v = _ := h; simp), (fun v W h => by obtain rfl : v = _ := h; simp), (fun v W h => by obtain rfl : v = _ := h; simp), (fun v W h => by obtain rfl : v = _ := h; rfl), trivial⟩ ⟨(fun h => Bool.noConfusion (show false = true from h)), (fun h => Bool.noConfusion (show false = true from h)), (fun h => Bool.noConfusion (show false = true from h)), (fun h => Bool.noConfusion (show false = true from h)), (fun h => Bool.noConfusion (show false = true from h)), (fun h => Bool.noConfusion (show false = true from h)), (fun h => Bool.noConfusion (show false = true from h)), (fun h => Bool.noConfusion (show false = true from h)), (fun h => Bool.noConfusion (show false = true from h)), (fun h => Bool.noConfusion (show false = true from h)), (fun h => Bool.noConfusion (show false = true from h)), (fun h => Bool.noConfusion (show false = true from h)), (fun h => Bool.noConfusion (show false = true from h)), (fun h => Bool.noConfusion (show false = true from h)), (fun h => Bool.noConfusion (show false = true from h)), (fun h => Bool.noConfusion (show false = true from h)), (fun h => Bool.noConfusion (show false = true from h)), (fun _ _ => rfl), (fun _ _ => rfl), (fun _ _ => rfl), (fun _ _ => rfl), (fun _ _ => rfl), (fun _ _ => rfl), (fun _ _ => rfl), (fun _ _ => rfl), (fun _ _ => rfl), (fun _ _ => rfl), (fun _ _ => rfl), (fun _ _ => rfl), (fun _ _ => rfl), (fun _ _ => rfl), (fun h => Bool.noConfusion (show false = true from h)), trivial⟩ (fun h k => newer_trans h k) (pickD_stable _ ⟨vIs_st, vIs_st, vIs_st, vIs_st, vIs_st, vIs_st, vIs_st, vIs_st, vIs_st, vIs_st, vIs_st, vIs_st, vIs_st, vIs_st, vIs_st, vIs_st, vIs_st, vIs_st, vIs_st, vIs_st, vIs_st, vIs_st, vIs_st, vIs_st, vIs_st, vIs_st, vIs_st, vIs_st, vIs_st, vIs_st, vIs_st, vIs_st, trivial⟩) (Below.refl _ wr).drew (Below.refl _ _) ?_ ?_)
                · refine ⟨.inr ?_, .inr ?_, .inr ?_, .inr ?_, .inr ?_, .inr ?_, .inr ?_, .inr ?_, .inr ?_, .inr ?_, .inr ?_, .inr ?_, .inr ?_, .inr ?_, .inr ?_, .inr ?_, .inr ?_, .inl rfl, .inl rfl, .inl rfl, .inl rfl, .inl rfl, .inl rfl, .inl rfl, .inl rfl, .inl rfl, .inl rfl, .inl rfl, .inl rfl, .inl rfl, .inl rfl, .inr ?_, trivial⟩
                  · intro a W hG hR hO hp
                    have h3 := hO.slot 3 (by kernel_rfl)
                    refine wp_yields (v := .pointer (some ⟨(w.heap.size + 1), 1, none⟩)) ?_ ⟨_, rfl, rfl, Below.refl _ _, hG⟩
                    simp [slotOf] at h3
                    simp [execOp, go_sem, h3]
                  · intro a W hG hR hO hp
                    have h37 : slotOf a 37 = .pointer (some ⟨(w.heap.size + 1), 1, none⟩) := hp.1
                    have c0 := keep_cell u1 hG
                    refine wp_yields (v := .slice (some ⟨ub, uo, none⟩) u.beds.length u.c) ?_ ⟨_, rfl, rfl, Below.refl _ _, hG⟩
                    simp [slotOf] at h37
                    simp [execOp, go_sem, h37, c0]
                  · intro a W hG hR hO hp
                    have h6 := hO.slot 6 (by kernel_rfl)
                    refine wp_yields (v := .int .i64 k) ?_ ⟨_, rfl, rfl, Below.refl _ _, hG⟩
                    simp [slotOf] at h6
                    simp [execOp, go_sem, h6]
                  · intro a W hG hR hO hp
                    have h38 : slotOf a 38 = .slice (some ⟨ub, uo, none⟩) u.beds.length u.c := hp.1
                    have h39 : slotOf a 39 = .int .i64 k := hp.2.1
                    refine wp_yields (v := .pointer (some ⟨ub, uo + k, none⟩)) ?_ ⟨_, rfl, rfl, Below.refl _ _, hG⟩
                    simp [slotOf] at h38 h39
                    simp [execOp, go_sem, h38, h39, hki]
                  · intro a W hG hR hO hp
                    have h40 : slotOf a 40 = .pointer (some ⟨ub, uo + k, none⟩) := hp.1
                    have c0 := keep_cell d0 hG
                    refine wp_yields (v := vi p) ?_ ⟨_, rfl, rfl, Below.refl _ _, hG⟩
                    simp [slotOf] at h40
                    simp [execOp, go_sem, h40, c0]
                  · intro a W hG hR hO hp
                    have h2 := hO.slot 2 (by kernel_rfl)
                    refine wp_yields (v := .pointer (some ⟨w.heap.size, 0, none⟩)) ?_ ⟨_, rfl, rfl, Below.refl _ _, hG⟩
                    simp [slotOf] at h2
                    simp [execOp, go_sem, h2]
                  · intro a W hG hR hO hp
                    have h42 : slotOf a 42 = .pointer (some ⟨w.heap.size, 0, none⟩) := hp.1
                    have c0 := keep_cell x0 hG
                    refine wp_yields (v := .slice (some ⟨b1, o1, none⟩) s.cs.length s.c) ?_ ⟨_, rfl, rfl, Below.refl _ _, hG⟩
                    simp [slotOf] at h42
                    simp [execOp, go_sem, h42, c0]
                  · intro a W hG hR hO hp
                    have h43 : slotOf a 43 = .slice (some ⟨b1, o1, none⟩) s.cs.length s.c := hp.1
                    refine wp_yields (v := .pointer (some ⟨b1, o1, none⟩)) ?_ ⟨_, rfl, rfl, Below.refl _ _, hG⟩
                    simp [slotOf] at h43
                    simp [execOp, go_sem, h43, hcne]
                  · intro a W hG hR hO hp
                    have h44 : slotOf a 44 = .pointer (some ⟨b1, o1, none⟩) := hp.1
                    have c0 := keep_cell cy hG
                    refine wp_yields (v := .slice y0.a n y0.cp) ?_ ⟨_, rfl, rfl, Below.refl _ _, hG⟩
                    simp [slotOf] at h44
                    simp [execOp, go_sem, h44, c0]
                  · intro a W hG hR hO hp
                    have h45 : slotOf a 45 = .slice y0.a n y0.cp := hp.1
                    refine wp_yields (v := .int .i64 n) ?_ ⟨_, rfl, rfl, Below.refl _ _, hG⟩
                    simp [slotOf] at h45
                    simp [go_sem, h45]
                  · intro a W hG hR hO hp
                    have h46 : slotOf a 46 = .int .i64 n := hp.1
                    refine wp_yields (v := vi ((n : Int) - 1)) ?_ ⟨_, rfl, rfl, Below.refl _ _, hG⟩
                    simp [slotOf] at h46
                    simp [execOp, go_sem, h46, c47]
                  · intro a W hG hR hO hp
                    have h41 : slotOf a 41 = vi p := hp.1
                    have h47 : slotOf a 47 = vi ((n : Int) - 1) := hp.2.1
                    refine wp_enters (f := 50) (args := #[vi p, vi 0, vi ((n : Int) - 1)]) ?_ ((HC1.out W).mono ?_)
                    · simp [slotOf] at h41 h47
                      simp [go_sem, h41, h47]
                    · rintro e w' ⟨rfl, rfl⟩
                      exact ⟨_, rfl, _, rfl, rfl, Below.refl _ _, hG⟩
                  · intro a W hG hR hO hp
                    have h48 : slotOf a 48 = .bool true := hp.1
                    refine wp_yields (v := .bool false) ?_ ⟨_, rfl, rfl, Below.refl _ _, hG⟩
                    simp [slotOf] at h48
                    simp [execOp, go_sem, h48]
                  · intro a W hG hR hO hp
                    have h49 : slotOf a 49 = .bool false := hp.1
                    refine wp_yields (v := .bool false) ?_ ⟨_, rfl, rfl, Below.refl _ _, hG⟩
                    simp [slotOf] at h49
                    simp [execOp, go_sem, h49]
                  · intro a W hG hR hO hp
                    have h6 := hO.slot 6 (by kernel_rfl)
                    refine wp_yields (v := .int .i64 k) ?_ ⟨_, rfl, rfl, Below.refl _ _, hG⟩
                    simp [slotOf] at h6
                    simp [execOp, go_sem, h6]
                  · intro a W hG hR hO hp
                    have h51 : slotOf a 51 = .int .i64 k := hp.1
                    refine wp_yields (v := .bool false) ?_ ⟨_, rfl, rfl, Below.refl _ _, hG⟩
                    simp [slotOf] at h51
                    simp [execOp, go_sem, h51, HKP.out]
                  · intro a W hG hR hO hp
                    have h52 : slotOf a 52 = .bool false := hp.1
                    refine wp_yields (v := .bool false) ?_ ⟨_, rfl, rfl, Below.refl _ _, hG⟩
                    simp [slotOf] at h52
                    simp [execOp, go_sem, h52]
                  · intro a W hG hR hO hp
                    have h53 : slotOf a 53 = .bool false := hp.1
                    have h67 : slotOf a 67 = undef := hp.2.1
                    refine wp_yields (v := .bool false) ?_ ⟨_, rfl, rfl, Below.refl _ _, hG⟩
                    simp [slotOf] at h53 h67
                    simp [execOp, go_sem, h53, h67]
                · intro W hG hR
                  rintro _ rfl _ rfl _ rfl _ rfl _ rfl _ rfl _ rfl _ rfl _ rfl _ rfl _ rfl _ rfl _ rfl _ rfl _ rfl _ rfl _ rfl _ rfl _ rfl _ rfl _ rfl _ rfl _ rfl _ rfl _ rfl _ rfl _ rfl _ rfl _ rfl _ rfl _ rfl _ rfl
                  change wpList _ _ _ _ _ _
                  simp only [Act.put, List.setIfInBounds_toArray, List.set_cons_zero, List.set_cons_succ, List.drop_succ_cons, List.drop_zero]
                  have HE := Lib.hid (And.intro (newer_trans HG.out.2 hG) (And.intro (HW.out.1.below hG HW.out.1.lt) (And.intro (HW.out.2.1.below hG HW.out.2.1.lt) (newer_trans HW.out.2.2 hG))))
                  clear hG hR x0 u1 cy d0 c47
                  go_wp2_with fail
                  refine ⟨⟨k + 1, by omega, rfl, HS.out, HE.out.1, HE.out.2.1, HE.out.2.2.1, HE.out.2.2.2⟩, ?_⟩
                  simp [intOf]
                  omega
              · have hg1 := HG.out.1 (k - 1) (by omega)
                obtain ⟨km, hkm0⟩ : ∃ km, km = k - 1 := ⟨_, rfl⟩
                obtain ⟨b3, o3, e3, d1⟩ := row1k (HU.out.below HW.out.2.2) (k := km) (by omega)
                rw [HEU.out] at e3
                obtain ⟨rfl, rfl⟩ : ub = b3 ∧ uo = o3 := by simpa using e3
                unfold okB at hg1
                rw [Bool.and_eq_true] at hg1
                rw [← hkm0] at hg1 hok
                have hpb2 : 0 ≤ iAt u.beds km ∧ iAt u.beds km ≤ (n : Int) - 1 := by simpa [inB] using hg1.1
                obtain ⟨p2, hp2⟩ : ∃ p2, p2 = iAt u.beds km := ⟨_, rfl⟩
                rw [← hp2] at d1 hok hpb2
                have HC2 := Lib.hid (fun W => in_any (p - p2) (-1) 1 W)
                rw [decide_eq_false hk0, Bool.false_or, Bool.true_and] at hok
                have HKP := Lib.hid (show 0 < k by omega)
                have hkl : k ≤ 1000 := by omega
                have c62 : IntKind.i64.wrap ((k : Int) - 1) = (km : Int) := by rw [show (k : Int) - 1 = km by omega]; exact IntWalk.i64_in _ (by omega)
                have c65 : IntKind.i64.wrap (p - p2) = p - p2 := IntWalk.i64_in _ (by omega)
                have hkm : (km : Int) < u.beds.length := by omega
                clear hg1 e3 hp2 hp hq hkm0
                cases hr2 : inB (p - p2) (-1) 1 with
                | false =>
                  rw [hr2] at HC2 hok
                  have hr3 : r = false := HQ.out k hlt hok
                  subst hr3
                  clear hr2 hok
                  go_upto_region 7 with fail
                  refine wp_words (by kernel_rfl) (region_told_u 32 (by kernel_rfl) (by kernel_rfl) [false, false, false, false, false, false, false, false, false, false, false, false, false, false, false, false, false, false, false, false, false, false, false, false, false, false, false, false, false, false, false, false] (fun W => Below wr.heap.size wr W) newer [vIs (.pointer (some ⟨(w.heap.size + 1), 1, none⟩)), vIs (.slice (some ⟨ub, uo, none⟩) u.beds.length u.c), vIs (.int .i64 k), vIs (.pointer (some ⟨ub, uo + k, none⟩)), vIs (vi p), vIs (.pointer (some ⟨w.heap.size, 0, none⟩)), vIs (.slice (some ⟨b1, o1, none⟩) s.cs.length s.c), vIs (.pointer (some ⟨b1, o1, none⟩)), vIs (.slice y0.a n y0.cp), vIs (.int .i64 n), vIs (vi ((n : Int) - 1)), vIs (.bool true), vIs (.bool false), vIs (.bool false), vIs (.int .i64 k), vIs (.bool true), vIs (.bool true), vIs (.pointer (some ⟨(w.heap.size + 1), 1, none⟩)), vIs (.slice (some ⟨ub, uo, none⟩) u.beds.length u.c), vIs (.int .i64 k), vIs (.pointer (some ⟨ub, uo + k, none⟩)), vIs (vi p), vIs (.pointer (some ⟨(w.heap.size + 1), 1, none⟩)), vIs (.slice (some ⟨ub, uo, none⟩) u.beds.length u.c), vIs (.int .i64 k), vIs (.int .i64 km), vIs (.pointer (some ⟨ub, uo + km, none⟩)), vIs (vi p2), vIs (vi (p - p2)), vIs (.bool false), vIs (.bool true), vIs (.bool true)] ⟨rfl, rfl, rfl, rfl, rfl, rfl, rfl, rfl, rfl, rfl, rfl, rfl, rfl, rfl, (fun v W h => by obtain rfl : v = _ := h; rfl), (fun v W h => by obtain rfl : v = _ := h; rfl), (fun v W h => by obtain rfl : v = _ := h; rfl), (fun v W h => by obtain rfl : v = _ := h; rfl), (fun v W h => by obtain rfl : v = _ := h; rfl), (fun v W h => by obtain rfl : v = _ := h; rfl), (fun v W h => by obtain rfl : v = _ := h; rfl), (fun v W h => by obtain rfl : v = _ := h; rfl), (fun v W h => by obtain rfl : v = _ := h; rfl), (fun v W h => by obtain rfl : v = _ := h; rfl), (fun v W h => by obtain rfl : v = _ := h; rfl), (fun v W h => by obtain rfl : v = _ := h; rfl), (fun v W h => by obtain rfl : v = _ := h; rfl), (fun v W h => by obtain rfl : v = _ := h; rfl), (fun v W h => by obtain rfl : v = _ := h; rfl), (fun v W h => by obtain rfl : v = _ := h; rfl), (fun v W h => by obtain rfl : v = _ := h; rfl), (fun v W h => by obtain rfl : v = _ := h; rfl), trivial⟩ ⟨(fun h => Bool.noConfusion (show false = true from h)), (fun h => Bool.noConfusion (show false = true from h)), (fun h => Bool.noConfusion (show false = true from h)), (fun h => Bool.noConfusion (show false = true from h)), (fun h => Bool.noConfusion (show false = true from h)), (fun h => Bool.noConfusion (show false = true from h)), (fun h => Bool.noConfusion (show false = true from h)), (fun h => Bool.noConfusion (show false = true from h)), (fun h => Bool.noConfusion (show false = true from h)), (fun h => Bool.noConfusion (show false = true from h)), (fun h => Bool.noConfusion (show false = true from h)), (fun h => Bool.noConfusion (show false = true from h)), (fun h => Bool.noConfusion (show false = true from h)), (fun h => Bool.noConfusion (show false = true from h)), (fun h => Bool.noConfusion (show false = true from h)), (fun h => Bool.noConfusion (show false = true from h)), (fun h => Bool.noConfusion (show false = true from h)), (fun h => Bool.noConfusion (show false = true from h)), (fun h => Bool.noConfusion (show false = true from h)), (fun h => Bool.noConfusion (show false = true from h)), (fun h => Bool.noConfusion (show false = true from h)), (fun h => Bool.noConfusion (show false = true from h)), (fun h => Bool.noConfusion (show false = true from h)), (fun h => Bool.noConfusion (show false = true from h)), (fun h => Bool.noConfusion (show false = true from h)), (fun h => Bool.noConfusion (show false = true from h)), (fun h => Bool.noConfusion (show false = true from h)), (fun h => Bool.noConfusion (show false = true from h)), (fun h => Bool.noConfusion (show false = true from h)), (fun h => Bool.noConfusion (show false = true from h)), (fun h => Bool.noConfusion (show false = true from h)), (fun h => Bool.noConfusion (show false = true from h)), trivial⟩ (fun h k => newer_trans h k) (pickD_stable _ ⟨vIs_st, vIs_st, vIs_st, vIs_st, vIs_st, vIs_st, vIs_st, vIs_st, vIs_st, vIs_st, vIs_st, vIs_st, vIs_st, vIs_st, vIs_st, vIs_st, vIs_st, vIs_st, vIs_st, vIs_st, vIs_st, vIs_st, vIs_st, vIs_st, vIs_st, vIs_st, vIs_st, vIs_st, vIs_st, vIs_st, vIs_st, vIs_st, trivial⟩) (Below.refl _ wr).drew (Below.refl _ _) ?_ ?_)
                  · refine ⟨.inr ?_, .inr ?_, .inr ?_, .inr ?_, .inr ?_, .inr ?_, .inr ?_, .inr ?_, .inr ?_, .inr ?_, .inr ?_, .inr ?_, .inr ?_, .inr ?_, .inr ?_, .inr ?_, .inr ?_, .inr ?_, .inr ?_, .inr ?_, .inr ?_, .inr ?_, .inr ?_, .inr ?_, .inr ?_, .inr ?_, .inr ?_, .inr ?_, .inr ?_, .inr ?_, .inr ?_, .inr ?_, trivial⟩
                    · intro a W hG hR hO hp
                      have h3 := hO.slot 3 (by kernel_rfl)
                      refine wp_yields (v := .pointer (some ⟨(w.heap.size + 1), 1, none⟩)) ?_ ⟨_, rfl, rfl, Below.refl _ _, hG⟩
                      simp [slotOf] at h3
                      simp [execOp, go_sem, h3]
                    · intro a W hG hR hO hp
                      have h37 : slotOf a 37 = .pointer (some ⟨(w.heap.size + 1), 1, none⟩) := hp.1
                      have c0 := keep_cell u1 hG
                      refine wp_yields (v := .slice (some ⟨ub, uo, none⟩) u.beds.length u.c) ?_ ⟨_, rfl, rfl, Below.refl _ _, hG⟩
                      simp [slotOf] at h37
                      simp [execOp, go_sem, h37, c0]
                    · intro a W hG hR hO hp
                      have h6 := hO.slot 6 (by kernel_rfl)
                      refine wp_yields (v := .int .i64 k) ?_ ⟨_, rfl, rfl, Below.refl _ _, hG⟩
                      simp [slotOf] at h6
                      simp [execOp, go_sem, h6]
                    · intro a W hG hR hO hp
                      have h38 : slotOf a 38 = .slice (some ⟨ub, uo, none⟩) u.beds.length u.c := hp.1
                      have h39 : slotOf a 39 = .int .i64 k := hp.2.1
                      refine wp_yields (v := .pointer (some ⟨ub, uo + k, none⟩)) ?_ ⟨_, rfl, rfl, Below.refl _ _, hG⟩
                      simp [slotOf] at h38 h39
                      simp [execOp, go_sem, h38, h39, hki]
                    · intro a W hG hR hO hp
                      have h40 : slotOf a 40 = .pointer (some ⟨ub, uo + k, none⟩) := hp.1
                      have c0 := keep_cell d0 hG
                      refine wp_yields (v := vi p) ?_ ⟨_, rfl, rfl, Below.refl _ _, hG⟩
                      simp [slotOf] at h40
                      simp [execOp, go_sem, h40, c0]
                    · intro a W hG hR hO hp
                      have h2 := hO.slot 2 (by kernel_rfl)
                      refine wp_yields (v := .pointer (some ⟨w.heap.size, 0, none⟩)) ?_ ⟨_, rfl, rfl, Below.refl _ _, hG⟩
                      simp [slotOf] at h2
                      simp [execOp, go_sem, h2]
                    · intro a W hG hR hO hp
                      have h42 : slotOf a 42 = .pointer (some ⟨w.heap.size, 0, none⟩) := hp.1
                      have c0 := keep_cell x0 hG
                      refine wp_yields (v := .slice (some ⟨b1, o1, none⟩) s.cs.length s.c) ?_ ⟨_, rfl, rfl, Below.refl _ _, hG⟩
                      simp [slotOf] at h42
                      simp [execOp, go_sem, h42, c0]
                    · intro a W hG hR hO hp
                      have h43 : slotOf a 43 = .slice (some ⟨b1, o1, none⟩) s.cs.length s.c := hp.1
                      refine wp_yields (v := .pointer (some ⟨b1, o1, none⟩)) ?_ ⟨_, rfl, rfl, Below.refl _ _, hG⟩
                      simp [slotOf] at h43
                      simp [execOp, go_sem, h43, hcne]
                    · intro a W hG hR hO hp
                      have h44 : slotOf a 44 = .pointer (some ⟨b1, o1, none⟩) := hp.1
                      have c0 := keep_cell cy hG
                      refine wp_yields (v := .slice y0.a n y0.cp) ?_ ⟨_, rfl, rfl, Below.refl _ _, hG⟩
                      simp [slotOf] at h44
                      simp [execOp, go_sem, h44, c0]
                    · intro a W hG hR hO hp
                      have h45 : slotOf a 45 = .slice y0.a n y0.cp := hp.1
                      refine wp_yields (v := .int .i64 n) ?_ ⟨_, rfl, rfl, Below.refl _ _, hG⟩
                      simp [slotOf] at h45
                      simp [go_sem, h45]
                    · intro a W hG hR hO hp
                      have h46 : slotOf a 46 = .int .i64 n := hp.1
                      refine wp_yields (v := vi ((n : Int) - 1)) ?_ ⟨_, rfl, rfl, Below.refl _ _, hG⟩
                      simp [slotOf] at h46
                      simp [execOp, go_sem, h46, c47]
                    · intro a W hG hR hO hp
                      have h41 : slotOf a 41 = vi p := hp.1
                      have h47 : slotOf a 47 = vi ((n : Int) - 1) := hp.2.1
                      refine wp_enters (f := 50) (args := #[vi p, vi 0, vi ((n : Int) - 1)]) ?_ ((HC1.out W).mono ?_)
                      · simp [slotOf] at h41 h47
                        simp [go_sem, h41, h47]
                      · rintro e w' ⟨rfl, rfl⟩
                        exact ⟨_, rfl, _, rfl, rfl, Below.refl _ _, hG⟩
                    · intro a W hG hR hO hp
                      have h48 : slotOf a 48 = .bool true := hp.1
                      refine wp_yields (v := .bool false) ?_ ⟨_, rfl, rfl, Below.refl _ _, hG⟩
                      simp [slotOf] at h48
                      simp [execOp, go_sem, h48]
                    · intro a W hG hR hO hp
                      have h49 : slotOf a 49 = .bool false := hp.1
                      refine wp_yields (v := .bool false) ?_ ⟨_, rfl, rfl, Below.refl _ _, hG⟩
                      simp [slotOf] at h49
                      simp [execOp, go_sem, h49]
                    · intro a W hG hR hO hp
                      have h6 := hO.slot 6 (by kernel_rfl)
                      refine wp_yields (v := .int .i64 k) ?_ ⟨_, rfl, rfl, Below.refl _ _, hG⟩
                      simp [slotOf] at h6
                      simp [execOp, go_sem, h6]
                    · intro a W hG hR hO hp
                      have h51 : slotOf a 51 = .int .i64 k := hp.1
                      refine wp_yields (v := .bool true) ?_ ⟨_, rfl, rfl, Below.refl _ _, hG⟩
                      simp [slotOf] at h51
                      simp [execOp, go_sem, h51, HKP.out]
                    · intro a W hG hR hO hp
                      have h52 : slotOf a 52 = .bool true := hp.1
                      refine wp_yields (v := .bool true) ?_ ⟨_, rfl, rfl, Below.refl _ _, hG⟩
                      simp [slotOf] at h52
                      simp [execOp, go_sem, h52]
                    · intro a W hG hR hO hp
                      have h3 := hO.slot 3 (by kernel_rfl)
                      refine wp_yields (v := .pointer (some ⟨(w.heap.size + 1), 1, none⟩)) ?_ ⟨_, rfl, rfl, Below.refl _ _, hG⟩
                      simp [slotOf] at h3
                      simp [execOp, go_sem, h3]
                    · intro a W hG hR hO hp
                      have h54 : slotOf a 54 = .pointer (some ⟨(w.heap.size + 1), 1, none⟩) := hp.1
                      have c0 := keep_cell u1 hG
                      refine wp_yields (v := .slice (some ⟨ub, uo, none⟩) u.beds.length u.c) ?_ ⟨_, rfl, rfl, Below.refl _ _, hG⟩
                      simp [slotOf] at h54
                      simp [execOp, go_sem, h54, c0]
                    · intro a W hG hR hO hp
                      have h6 := hO.slot 6 (by kernel_rfl)
                      refine wp_yields (v := .int .i64 k) ?_ ⟨_, rfl, rfl, Below.refl _ _, hG⟩
                      simp [slotOf] at h6
                      simp [execOp, go_sem, h6]
                    · intro a W hG hR hO hp
                      have h55 : slotOf a 55 = .slice (some ⟨ub, uo, none⟩) u.beds.length u.c := hp.1
                      have h56 : slotOf a 56 = .int .i64 k := hp.2.1
                      refine wp_yields (v := .pointer (some ⟨ub, uo + k, none⟩)) ?_ ⟨_, rfl, rfl, Below.refl _ _, hG⟩
                      simp [slotOf] at h55 h56
                      simp [execOp, go_sem, h55, h56, hki]
                    · intro a W hG hR hO hp
                      have h57 : slotOf a 57 = .pointer (some ⟨ub, uo + k, none⟩) := hp.1
                      have c0 := keep_cell d0 hG
                      refine wp_yields (v := vi p) ?_ ⟨_, rfl, rfl, Below.refl _ _, hG⟩
                      simp [slotOf] at h57
                      simp [execOp, go_sem, h57, c0]
                    · intro a W hG hR hO hp
                      have h3 := hO.slot 3 (by kernel_rfl)
                      refine wp_yields (v := .pointer (some ⟨(w.heap.size + 1), 1, none⟩)) ?_ ⟨_, rfl, rfl, Below.refl _ _, hG⟩
                      simp [slotOf] at h3
                      simp [execOp, go_sem, h3]
                    · intro a W hG hR hO hp
                      have h59 : slotOf a 59 = .pointer (some ⟨(w.heap.size + 1), 1, none⟩) := hp.1
                      have c0 := keep_cell u1 hG
                      refine wp_yields (v := .slice (some ⟨ub, uo, none⟩) u.beds.length u.c) ?_ ⟨_, rfl, rfl, Below.refl _ _, hG⟩
                      simp [slotOf] at h59
                      simp [execOp, go_sem, h59, c0]
                    · intro a W hG hR hO hp
                      have h6 := hO.slot 6 (by kernel_rfl)
                      refine wp_yields (v := .int .i64 k) ?_ ⟨_, rfl, rfl, Below.refl _ _, hG⟩
                      simp [slotOf] at h6
                      simp [execOp, go_sem, h6]
                    · intro a W hG hR hO hp
                      have h61 : slotOf a 61 = .int .i64 k := hp.1
                      refine wp_yields (v := .int .i64 km) ?_ ⟨_, rfl, rfl, Below.refl _ _, hG⟩
                      simp [slotOf] at h61
                      simp [execOp, go_sem, h61, c62]
                    · intro a W hG hR hO hp
                      have h60 : slotOf a 60 = .slice (some ⟨ub, uo, none⟩) u.beds.length u.c := hp.1
                      have h62 : slotOf a 62 = .int .i64 km := hp.2.1
                      refine wp_yields (v := .pointer (some ⟨ub, uo + km, none⟩)) ?_ ⟨_, rfl, rfl, Below.refl _ _, hG⟩
                      simp [slotOf] at h60 h62
                      simp [execOp, go_sem, h60, h62, hkm]
                    · intro a W hG hR hO hp
                      have h63 : slotOf a 63 = .pointer (some ⟨ub, uo + km, none⟩) := hp.1
                      have c0 := keep_cell d1 hG
                      refine wp_yields (v := vi p2) ?_ ⟨_, rfl, rfl, Below.refl _ _, hG⟩
                      simp [slotOf] at h63
                      simp [execOp, go_sem, h63, c0]
                    · intro a W hG hR hO hp
                      have h58 : slotOf a 58 = vi p := hp.1
                      have h64 : slotOf a 64 = vi p2 := hp.2.1
                      refine wp_yields (v := vi (p - p2)) ?_ ⟨_, rfl, rfl, Below.refl _ _, hG⟩
                      simp [slotOf] at h58 h64
                      simp [execOp, go_sem, h58, h64, c65]
                    · intro a W hG hR hO hp
                      have h65 : slotOf a 65 = vi (p - p2) := hp.1
                      refine wp_enters (f := 50) (args := #[vi (p - p2), vi (-1), vi 1]) ?_ ((HC2.out W).mono ?_)
                      · simp [slotOf] at h65
                        simp [go_sem, h65]
                      · rintro e w' ⟨rfl, rfl⟩
                        exact ⟨_, rfl, _, rfl, rfl, Below.refl _ _, hG⟩
                    · intro a W hG hR hO hp
                      have h66 : slotOf a 66 = .bool false := hp.1
                      refine wp_yields (v := .bool true) ?_ ⟨_, rfl, rfl, Below.refl _ _, hG⟩
                      simp [slotOf] at h66
                      simp [execOp, go_sem, h66]
                    · intro a W hG hR hO hp
                      have h53 : slotOf a 53 = .bool true := hp.1
                      have h67 : slotOf a 67 = .bool true := hp.2.1
                      refine wp_yields (v := .bool true) ?_ ⟨_, rfl, rfl, Below.refl _ _, hG⟩
                      simp [slotOf] at h53 h67
                      simp [execOp, go_sem, h53, h67]
                  · intro W hG hR
                    rintro _ rfl _ rfl _ rfl _ rfl _ rfl _ rfl _ rfl _ rfl _ rfl _ rfl _ rfl _ rfl _ rfl _ rfl _ rfl _ rfl _ rfl _ rfl _ rfl _ rfl _ rfl _ rfl _ rfl _ rfl _ rfl _ rfl _ rfl _ rfl _ rfl _ rfl _ rfl _ rfl
                    change wpList _ _ _ _ _ _
                    simp only [Act.put, List.setIfInBounds_toArray, List.set_cons_zero, List.set_cons_succ, List.drop_succ_cons, List.drop_zero]
                    have HE := Lib.hid (newer_trans HG.out.2 hG)
                    clear hG hR x0 u1 cy d0 d1 c47 c62 c65
                    go_wp2_with fail
                    go_ret
                    exact ⟨rfl, HE.out⟩
                | true =>
                  rw [hr2] at HC2 hok
                  have HS := Lib.hid (goodTo_succ HG.out.1 hok)
                  clear hr2 hok
                  go_upto_region 7 with fail
                  refine wp_words (by kernel_rfl) (region_told_u 32 (by kernel_rfl) (by kernel_rfl) [false, false, false, false, false, false, false, false, false, false, false, false, false, false, false, false, false, false, false, false, false, false, false, false, false, false, false, false, false, false, false, false] (fun W => Below wr.heap.size wr W) newer [vIs (.pointer (some ⟨(w.heap.size + 1), 1, none⟩)), vIs (.slice (some ⟨ub, uo, none⟩) u.beds.length u.c), vIs (.int .i64 k), vIs (.pointer (some ⟨ub, uo + k, none⟩)), vIs (vi p), vIs (.pointer (some ⟨w.heap.size, 0, none⟩)), vIs (.slice (some ⟨b1, o1, none⟩) s.cs.length s.c), vIs (.pointer (some ⟨b1, o1, none⟩)), vIs (.slice y0.a n y0.cp), vIs (.int .i64 n), vIs (vi ((n : Int) - 1)), vIs (.bool true), vIs (.bool false), vIs (.bool false), vIs (.int .i64 k), vIs (.bool true), vIs (.bool true), vIs (.pointer (some ⟨(w.heap.size + 1), 1, none⟩)), vIs (.slice (some ⟨ub, uo, none⟩) u.beds.length u.c), vIs (.int .i64 k), vIs (.pointer (some ⟨ub, uo + k, none⟩)), vIs (vi p), vIs (.pointer (some ⟨(w.heap.size + 1), 1, none⟩)), vIs (.slice (some ⟨ub, uo, none⟩) u.beds.length u.c), vIs (.int .i64 k), vIs (.int .i64 km), vIs (.pointer (some ⟨ub, uo + km, none⟩)), vIs (vi p2), vIs (vi (p - p2)), vIs (.bool true), vIs (.bool false), vIs (.bool false)] ⟨rfl, rfl, rfl, rfl, rfl, rfl, rfl, rfl, rfl, rfl, rfl, rfl, rfl, rfl, (fun v W h => by obtain rfl : v = _ := h; rfl), (fun v W h => by obtain rfl : v = _ := h; rfl), (fun v W h => by obtain rfl : v = _ := h; rfl), (fun v W h => by obtain rfl : v = _ := h; rfl), (fun v W h => by obtain rfl : v = _ := h; rfl), (fun v W h => by obtain rfl : v = _ := h; rfl), (fun v W h => by obtain rfl : v = _ := h; rfl), (fun v W h => by obtain rfl : v = _ := h; rfl), (fun v W h => by obtain rfl : v = _ := h; rfl), (fun v W h => by obtain rfl : v = _ := h; rfl), (fun v W h => by obtain rfl : v = _ := h; rfl), (fun v W h => by obtain rfl : v = _ := h; rfl), (fun v W h => by obtain rfl : v = _ := h; rfl), (fun v W h => by obtain rfl : v = _ := h; rfl), (fun v W h => by obtain rfl : v = _ := h; rfl), (fun v W h => by obtain rfl : v = _ := h; rfl), (fun v W h => by obtain rfl : v = _ := h; rfl), (fun v W h => by obtain rfl : v = _ := h; rfl), trivial⟩ ⟨(fun h => Bool.noConfusion (show false = true from h)), (fun h => Bool.noConfusion (show false = true from h)), (fun h => Bool.noConfusion (show false = true from h)), (fun h => Bool.noConfusion (show false = true from h)), (fun h => Bool.noConfusion (show false = true from h)), (fun h => Bool.noConfusion (show false = true from h)), (fun h => Bool.noConfusion (show false = true from h)), (fun h => Bool.noConfusion (show false = true from h)), (fun h => Bool.noConfusion (show false = true from h)), (fun h => Bool.noConfusion (show false = true from h)), (fun h => Bool.noConfusion (show false = true from h)), (fun h => Bool.noConfusion (show false = true from h)), (fun h => Bool.noConfusion (show false = true from h)), (fun h => Bool.noConfusion (show false = true from h)), (fun h => Bool.noConfusion (show false = true from h)), (fun h => Bool.noConfusion (show false = true from h)), (fun h => Bool.noConfusion (show false = true from h)), (fun h => Bool.noConfusion (show false = true from h)), (fun h => Bool.noConfusion (show false = true from h)), (fun h => Bool.noConfusion (show false = true from h)), (fun h => Bool.noConfusion (show false = true from h)), (fun h => Bool.noConfusion (show false = true from h)), (fun h => Bool.noConfusion (show false = true from h)), (fun h => Bool.noConfusion (show false = true from h)), (fun h => Bool.noConfusion (show false = true from h)), (fun h => Bool.noConfusion (show false = true from h)), (fun h => Bool.noConfusion (show false = true from h)), (fun h => Bool.noConfusion (show false = true from h)), (fun h => Bool.noConfusion (show false = true from h)), (fun h => Bool.noConfusion (show false = true from h)), (fun h => Bool.noConfusion (show false = true from h)), (fun h => Bool.noConfusion (show false = true from h)), trivial⟩ (fun h k => newer_trans h k) (pickD_stable _ ⟨vIs_st, vIs_st, vIs_st, vIs_st, vIs_st, vIs_st, vIs_st, vIs_st, vIs_st, vIs_st, vIs_st, vIs_st, vIs_st, vIs_st, vIs_st, vIs_st, vIs_st, vIs_st, vIs_st, vIs_st, vIs_st, vIs_st, vIs_st, vIs_st, vIs_st, vIs_st, vIs_st, vIs_st, vIs_st, vIs_st, vIs_st, vIs_st, trivial⟩) (Below.refl _ wr).drew (Below.refl _ _) ?_ ?_)
                  · refine ⟨.inr ?_, .inr ?_, .inr ?_, .inr ?_, .inr ?_, .inr ?_, .inr ?_, .inr ?_, .inr ?_, .inr ?_, .inr ?_, .inr ?_, .inr ?_, .inr ?_, .inr ?_, .inr ?_, .inr ?_, .inr ?_, .inr ?_, .inr ?_, .inr ?_, .inr ?_, .inr ?_, .inr ?_, .inr ?_, .inr ?_, .inr ?_, .inr ?_, .inr ?_, .inr ?_, .inr ?_, .inr ?_, trivial⟩
                    · intro a W hG hR hO hp
                      have h3 := hO.slot 3 (by kernel_rfl)
                      refine wp_yields (v := .pointer (some ⟨(w.heap.size + 1), 1, none⟩)) ?_ ⟨_, rfl, rfl, Below.refl _ _, hG⟩
                      simp [slotOf] at h3
                      simp [execOp, go_sem, h3]
                    · intro a W hG hR hO hp
                      have h37 : slotOf a 37 = .pointer (some ⟨(w.heap.size + 1), 1, none⟩) := hp.1
                      have c0 := keep_cell u1 hG
                      refine wp_yields (v := .slice (some ⟨ub, uo, none⟩) u.beds.length u.c) ?_ ⟨_, rfl, rfl, Below.refl _ _, hG⟩
                      simp [slotOf] at h37
                      simp [execOp, go_sem, h37, c0]
                    · intro a W hG hR hO hp
                      have h6 := hO.slot 6 (by kernel_rfl)
                      refine wp_yields (v := .int .i64 k) ?_ ⟨_, rfl, rfl, Below.refl _ _, hG⟩
                      simp [slotOf] at h6
                      simp [execOp, go_sem, h6]
                    · intro a W hG hR hO hp
                      have h38 : slotOf a 38 = .slice (some ⟨ub, uo, none⟩) u.beds.length u.c := hp.1
                      have h39 : slotOf a 39 = .int .i64 k := hp.2.1
                      refine wp_yields (v := .pointer (some ⟨ub, uo + k, none⟩)) ?_ ⟨_, rfl, rfl, Below.refl _ _, hG⟩
                      simp [slotOf] at h38 h39
                      simp [execOp, go_sem, h38, h39, hki]
                    · intro a W hG hR hO hp
                      have h40 : slotOf a 40 = .pointer (some ⟨ub, uo + k, none⟩) := hp.1
                      have c0 := keep_cell d0 hG
                      refine wp_yields (v := vi p) ?_ ⟨_, rfl, rfl, Below.refl _ _, hG⟩
                      simp [slotOf] at h40
                      simp [execOp, go_sem, h40, c0]
                    · intro a W hG hR hO hp
                      have h2 := hO.slot 2 (by kernel_rfl)
                      refine wp_yields (v := .pointer (some ⟨w.heap.size, 0, none⟩)) ?_ ⟨_, rfl, rfl, Below.refl _ _, hG⟩
                      simp [slotOf] at h2
                      simp [execOp, go_sem, h2]
                    · intro a W hG hR hO hp
                      have h42 : slotOf a 42 = .pointer (some ⟨w.heap.size, 0, none⟩) := hp.1
                      have c0 := keep_cell x0 hG
                      refine wp_yields (v := .slice (some ⟨b1, o1, none⟩) s.cs.length s.c) ?_ ⟨_, rfl, rfl, Below.refl _ _, hG⟩
                      simp [slotOf] at h42
                      simp [execOp, go_sem, h42, c0]
                    · intro a W hG hR hO hp
                      have h43 : slotOf a 43 = .slice (some ⟨b1, o1, none⟩) s.cs.length s.c := hp.1
                      refine wp_yields (v := .pointer (some ⟨b1, o1, none⟩)) ?_ ⟨_, rfl, rfl, Below.refl _ _, hG⟩
                      simp [slotOf] at h43
                      simp [execOp, go_sem, h43, hcne]
                    · intro a W hG hR hO hp
                      have h44 : slotOf a 44 = .pointer (some ⟨b1, o1, none⟩) := hp.1
                      have c0 := keep_cell cy hG
                      refine wp_yields (v := .slice y0.a n y0.cp) ?_ ⟨_, rfl, rfl, Below.refl _ _, hG⟩
                      simp [slotOf] at h44
                      simp [execOp, go_sem, h44, c0]
                    · intro a W hG hR hO hp
                      have h45 : slotOf a 45 = .slice y0.a n y0.cp := hp.1
                      refine wp_yields (v := .int .i64 n) ?_ ⟨_, rfl, rfl, Below.refl _ _, hG⟩
                      simp [slotOf] at h45
                      simp [go_sem, h45]
                    · intro a W hG hR hO hp
                      have h46 : slotOf a 46 = .int .i64 n := hp.1
                      refine wp_yields (v := vi ((n : Int) - 1)) ?_ ⟨_, rfl, rfl, Below.refl _ _, hG⟩
                      simp [slotOf] at h46
                      simp [execOp, go_sem, h46, c47]
                    · intro a W hG hR hO hp
                      have h41 : slotOf a 41 = vi p := hp.1
                      have h47 : slotOf a 47 = vi ((n : Int) - 1) := hp.2.1
                      refine wp_enters (f := 50) (args := #[vi p, vi 0, vi ((n : Int) - 1)]) ?_ ((HC1.out W).mono ?_)
                      · simp [slotOf] at h41 h47
                        simp [go_sem, h41, h47]
                      · rintro e w' ⟨rfl, rfl⟩
                        exact ⟨_, rfl, _, rfl, rfl, Below.refl _ _, hG⟩
                    · intro a W hG hR hO hp
                      have h48 : slotOf a 48 = .bool true := hp.1
                      refine wp_yields (v := .bool false) ?_ ⟨_, rfl, rfl, Below.refl _ _, hG⟩
                      simp [slotOf] at h48
                      simp [execOp, go_sem, h48]
                    · intro a W hG hR hO hp
                      have h49 : slotOf a 49 = .bool false := hp.1
                      refine wp_yields (v := .bool false) ?_ ⟨_, rfl, rfl, Below.refl _ _, hG⟩
                      simp [slotOf] at h49
                      simp [execOp, go_sem, h49]
                    · intro a W hG hR hO hp
                      have h6 := hO.slot 6 (by kernel_rfl)
                      refine wp_yields (v := .int .i64 k) ?_ ⟨_, rfl, rfl, Below.refl _ _, hG⟩
                      simp [slotOf] at h6
                      simp [execOp, go_sem, h6]
                    · intro a W hG hR hO hp
                      have h51 : slotOf a 51 = .int .i64 k := hp.1
                      refine wp_yields (v := .bool true) ?_ ⟨_, rfl, rfl, Below.refl _ _, hG⟩
                      simp [slotOf] at h51
                      simp [execOp, go_sem, h51, HKP.out]
                    · intro a W hG hR hO hp
                      have h52 : slotOf a 52 = .bool true := hp.1
                      refine wp_yields (v := .bool true) ?_ ⟨_, rfl, rfl, Below.refl _ _, hG⟩
                      simp [slotOf] at h52
                      simp [execOp, go_sem, h52]
                    · intro a W hG hR hO hp
                      have h3 := hO.slot 3 (by kernel_rfl)
                      refine wp_yields (v := .pointer (some ⟨(w.heap.size + 1), 1, none⟩)) ?_ ⟨_, rfl, rfl, Below.refl _ _, hG⟩
                      simp [slotOf] at h3
                      simp [execOp, go_sem, h3]
                    · intro a W hG hR hO hp
                      have h54 : slotOf a 54 = .pointer (some ⟨(w.heap.size + 1), 1, none⟩) := hp.1
                      have c0 := keep_cell u1 hG
                      refine wp_yields (v := .slice (some ⟨ub, uo, none⟩) u.beds.length u.c) ?_ ⟨_, rfl, rfl, Below.refl _ _, hG⟩
                      simp [slotOf] at h54
                      simp [execOp, go_sem, h54, c0]
                    · intro a W hG hR hO hp
                      have h6 := hO.slot 6 (by kernel_rfl)
                      refine wp_yields (v := .int .i64 k) ?_ ⟨_, rfl, rfl, Below.refl _ _, hG⟩
                      simp [slotOf] at h6
                      simp [execOp, go_sem, h6]
                    · intro a W hG hR hO hp
                      have h55 : slotOf a 55 = .slice (some ⟨ub, uo, none⟩) u.beds.length u.c := hp.1
                      have h56 : slotOf a 56 = .int .i64 k := hp.2.1
                      refine wp_yields (v := .pointer (some ⟨ub, uo + k, none⟩)) ?_ ⟨_, rfl, rfl, Below.refl _ _, hG⟩
                      simp [slotOf] at h55 h56
                      simp [execOp, go_sem, h55, h56, hki]
                    · intro a W hG hR hO hp
                      have h57 : slotOf a 57 = .pointer (some ⟨ub, uo + k, none⟩) := hp.1
                      have c0 := keep_cell d0 hG
                      refine wp_yields (v := vi p) ?_ ⟨_, rfl, rfl, Below.refl _ _, hG⟩
                      simp [slotOf] at h57
                      simp [execOp, go_sem, h57, c0]
                    · intro a W hG hR hO hp
                      have h3 := hO.slot 3 (by kernel_rfl)
                      refine wp_yields (v := .pointer (some ⟨(w.heap.size + 1), 1, none⟩)) ?_ ⟨_, rfl, rfl, Below.refl _ _, hG⟩
                      simp [slotOf] at h3
                      simp [execOp, go_sem, h3]
                    · intro a W hG hR hO hp
                      have h59 : slotOf a 59 = .pointer (some ⟨(w.heap.size + 1), 1, none⟩) := hp.1
                      have c0 := keep_cell u1 hG
                      refine wp_yields (v := .slice (some ⟨ub, uo, none⟩) u.beds.length u.c) ?_ ⟨_, rfl, rfl, Below.refl _ _, hG⟩
                      simp [slotOf] at h59
                      simp [execOp, go_sem, h59, c0]
                    · intro a W hG hR hO hp
                      have h6 := hO.slot 6 (by kernel_rfl)
                      refine wp_yields (v := .int .i64 k) ?_ ⟨_, rfl, rfl, Below.refl _ _, hG⟩
                      simp [slotOf] at h6
                      simp [execOp, go_sem, h6]
                    · intro a W hG hR hO hp
                      have h61 : slotOf a 61 = .int .i64 k := hp.1
                      refine wp_yields (v := .int .i64 km) ?_ ⟨_, rfl, rfl, Below.refl _ _, hG⟩
                      simp [slotOf] at h61
                      simp [execOp, go_sem, h61, c62]
                    · intro a W hG hR hO hp
                      have h60 : slotOf a 60 = .slice (some ⟨ub, uo, none⟩) u.beds.length u.c := hp.1
                      have h62 : slotOf a 62 = .int .i64 km := hp.2.1
                      refine wp_yields (v := .pointer (some ⟨ub, uo + km, none⟩)) ?_ ⟨_, rfl, rfl, Below.refl _ _, hG⟩
                      simp [slotOf] at h60 h62
                      simp [execOp, go_sem, h60, h62, hkm]
                    · intro a W hG hR hO hp
                      have h63 : slotOf a 63 = .pointer (some ⟨ub, uo + km, none⟩) := hp.1
                      have c0 := keep_cell d1 hG
                      refine wp_yields (v := vi p2) ?_ ⟨_, rfl, rfl, Below.refl _ _, hG⟩
                      simp [slotOf] at h63
                      simp [execOp, go_sem, h63, c0]
                    · intro a W hG hR hO hp
                      have h58 : slotOf a 58 = vi p := hp.1
                      have h64 : slotOf a 64 = vi p2 := hp.2.1
                      refine wp_yields (v := vi (p - p2)) ?_ ⟨_, rfl, rfl, Below.refl _ _, hG⟩
                      simp [slotOf] at h58 h64
                      simp [execOp, go_sem, h58, h64, c65]
                    · intro a W hG hR hO hp
                      have h65 : slotOf a 65 = vi (p - p2) := hp.1
                      refine wp_enters (f := 50) (args := #[vi (p - p2), vi (-1), vi 1]) ?_ ((HC2.out W).mono ?_)
                      · simp [slotOf] at h65
                        simp [go_sem, h65]
                      · rintro e w' ⟨rfl, rfl⟩
                        exact ⟨_, rfl, _, rfl, rfl, Below.refl _ _, hG⟩
                    · intro a W hG hR hO hp
                      have h66 : slotOf a 66 = .bool true := hp.1
                      refine wp_yields (v := .bool false) ?_ ⟨_, rfl, rfl, Below.refl _ _, hG⟩
                      simp [slotOf] at h66
                      simp [execOp, go_sem, h66]
                    · intro a W hG hR hO hp
                      have h53 : slotOf a 53 = .bool true := hp.1
                      have h67 : slotOf a 67 = .bool false := hp.2.1
                      refine wp_yields (v := .bool false) ?_ ⟨_, rfl, rfl, Below.refl _ _, hG⟩
                      simp [slotOf] at h53 h67
                      simp [execOp, go_sem, h53, h67]
                  · intro W hG hR
                    rintro _ rfl _ rfl _ rfl _ rfl _ rfl _ rfl _ rfl _ rfl _ rfl _ rfl _ rfl _ rfl _ rfl _ rfl _ rfl _ rfl _ rfl _ rfl _ rfl _ rfl _ rfl _ rfl _ rfl _ rfl _ rfl _ rfl _ rfl _ rfl _ rfl _ rfl _ rfl _ rfl
                    change wpList _ _ _ _ _ _
                    simp only [Act.put, List.setIfInBounds_toArray, List.set_cons_zero, List.set_cons_succ, List.drop_succ_cons, List.drop_zero]
                    have HE := Lib.hid (And.intro (newer_trans HG.out.2 hG) (And.intro (HW.out.1.below hG HW.out.1.lt) (And.intro (HW.out.2.1.below hG HW.out.2.1.lt) (newer_trans HW.out.2.2 hG))))
                    clear hG hR x0 u1 cy d0 d1 c47 c62 c65
                    go_wp2_with fail
                    refine ⟨⟨k + 1, by omega, rfl, HS.out, HE.out.1, HE.out.2.1, HE.out.2.2.1, HE.out.2.2.2⟩, ?_⟩
                    simp [intOf]
                    omega
          · obtain rfl : k = u.beds.length := by omega
            have hr2 : r = true := HQ2.out q2
            subst hr2
            go_wp2_with fail
            go_ret
            exact ⟨rfl, q3⟩
set_option maxRecDepth 100000 in
set_option maxHeartbeats 1000000 in
theorem fault_any (s : Sm) (u : Su) (w : World) (hok : SmOk s w) (few : SmFew s) (hu : SuOk u w) (hul : u.beds.length ≤ 1000) : Calls Try.prog 21 #[smV s, suV u] w fun e w' => e = .returned (vi (checkUN s.sd u.frm u.beds)) ∧ newer w w' := by
  have hnw : newer w ((w.alloc (.cells (smC s) 24)).alloc (.cells (suC u) 27)) := newer_trans (newer_allocH _ _) (newer_allocH _ _)
  have hxb := (Whole.made w 24 (smC s)).alloc (.cells (suC u) 27)
  have hub := Whole.made (w.alloc (.cells (smC s) 24)) 27 (suC u)
  rw [World.size_alloc] at hub
  have H0 := Lib.hid (And.intro hnw (And.intro hxb hub))
  have HV := Lib.hid (right_any s _ (hok.next hnw) few)
  have x0 := hxb.at 0 (v := .slice s.a s.cs.length s.c) rfl
  have x1 := hxb.at 1 (v := vi s.least) rfl
  have HSU : Hid (slopeB s.sd = true → ∀ W, newer w W → Calls Try.prog 30 #[smV s, suV u] W fun e w' => e = .returned (.bool (surfB s.sd u.frm u.beds)) ∧ newer W w') := Lib.hid (fun h W hW => isSurface_any s u W (hok.next hW) (hu.next hW) (sdOk_iff.1 h) hul)
  unfold checkUN
  obtain ⟨q, hq⟩ : ∃ q, q = slopeB s.sd := ⟨_, rfl⟩
  obtain ⟨r, hr⟩ : ∃ r, r = surfB s.sd u.frm u.beds := ⟨_, rfl⟩
  rw [← hq] at HV HSU ⊢
  rw [← hr] at HSU ⊢
  clear hq hr hok few hu hul hnw hxb hub
  cases q with
  | false =>
    go_enter Try.func21, Try.ntmps21
    go_wp2_with fail
    refine (HV.out).mono ?_
    rintro e w1 ⟨rfl, hb⟩
    have HE := Lib.hid (newer_trans H0.out.1 hb)
    clear hb HV H0
    go_wp2_with fail
    go_ret
    exact ⟨rfl, HE.out⟩
  | true =>
    have HS2 := Lib.hid (HSU.out rfl)
    clear HSU
    go_enter Try.func21, Try.ntmps21
    go_wp2_with fail
    refine (HV.out).mono ?_
    rintro e w1 ⟨rfl, hb⟩
    have H1 := Lib.hid (And.intro (newer_trans H0.out.1 hb) (And.intro (H0.out.2.1.below hb H0.out.2.1.lt) (H0.out.2.2.below hb H0.out.2.2.lt)))
    clear hb HV H0 x0 x1
    have x0 := H1.out.2.1.at 0 (v := .slice s.a s.cs.length s.c) rfl
    have x1 := H1.out.2.1.at 1 (v := vi s.least) rfl
    have u0 := H1.out.2.2.at 0 (v := vi u.frm) rfl
    have u1 := H1.out.2.2.at 1 (v := .slice u.a u.beds.length u.c) rfl
    go_wp2_with fail
    refine (HS2.out w1 H1.out.1).mono ?_
    rintro e w2 ⟨rfl, hb⟩
    have HE := Lib.hid (newer_trans H1.out.1 hb)
    clear hb HS2 H1 x0 x1 u0 u1
    cases r with
    | false =>
      go_wp2_with fail
      go_ret
      exact ⟨rfl, HE.out⟩
    | true =>
      go_wp2_with fail
      go_ret
      exact ⟨rfl, HE.out⟩

end Go.Proofs.Ytkenokpobbichaa
