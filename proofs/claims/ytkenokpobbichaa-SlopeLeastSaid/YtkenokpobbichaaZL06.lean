/- What the last text of this chain needs: AA, AC, AD, AI, CA, CB. -/
import Derived.Test.YtkenokpobbichaaZL05
namespace Go.Proofs.Ytkenokpobbichaa
section
open Go.RowKit Go.Shelf Go.Deep
/-- Is a slope thin? -/
def thinS (s : Sd) : Bool := s.cols.all (fun l => decide (l.length ≤ 8)) && decide (s.cols.length ≤ 15)
theorem thinS_few {s : Sm} (h : thinS s.sd = true) : SmFew s ∧ s.cs.length ≤ 15 ∧ ∀ x ∈ s.cs, x.beds.length ≤ 8 := by
  unfold thinS at h
  rw [Bool.and_eq_true, decide_eq_true_eq, sd_len, sd_all, List.all_eq_true] at h
  have h1 : ∀ x ∈ s.cs, x.beds.length ≤ 8 := fun x hx => by simpa using h.1 x hx
  exact ⟨⟨by omega, fun x hx => by have := h1 x hx; omega⟩, h.2, h1⟩
set_option maxRecDepth 100000 in
set_option maxHeartbeats 2000000 in
theorem lawThin (s : Sm) (w : World) (hok : SmOk s w) : Calls Try.prog 16 #[smV s] w fun e w' => e = .returned (.bool (thinS s.sd)) ∧ newer w w' := by
  have H0 := Lib.hid (And.intro (newer_allocH w (.cells (smC s) 24)) (Whole.made w 24 (smC s)))
  have HOK := Lib.hid hok
  have hf1 : ∀ x ∈ s.cs, ¬ x.beds.length ≤ 8 → thinS s.sd = false := fun x hx h => by
    unfold thinS
    have : s.sd.cols.all (fun l => decide (l.length ≤ 8)) = false := by
      rw [sd_all, List.all_eq_false]
      exact ⟨x, hx, by simpa using h⟩
    rw [this]
    rfl
  have hf2 : ¬ s.cs.length ≤ 15 → thinS s.sd = false := fun h => by
    unfold thinS
    rw [sd_len, decide_eq_false h, Bool.and_false]
  have ht : s.cs.length ≤ 15 → early (fun x : Cl => !decide (x.beds.length ≤ 8)) s.cs s.cs.length → thinS s.sd = true := fun h1 h2 => by
    unfold thinS
    rw [sd_len, decide_eq_true h1, Bool.and_true, sd_all, List.all_eq_true]
    intro x hx
    obtain ⟨i, hi⟩ := List.mem_iff_getElem?.1 hx
    have h3 := h2 i x (List.getElem?_eq_some_iff.1 hi).1 hi
    simpa using h3
  have HF := Lib.hid (And.intro hf1 (And.intro hf2 ht))
  clear hf1 hf2 ht
  obtain ⟨r, hr⟩ : ∃ r, r = thinS s.sd := ⟨_, rfl⟩
  rw [← hr] at HF ⊢
  clear hr hok
  go_enter Try.func16, Try.ntmps16
  go_wp2_with fail
  go_loopw [3] (fun s3 wr => ∃ k : Nat, k ≤ s.cs.length ∧ k ≤ 16 ∧ s3 = vi k ∧ newer w wr ∧ Whole wr w.heap.size 24 (smC s) ∧ early (fun x : Cl => !decide (x.beds.length ≤ 8)) s.cs k) (fun s3 _ => s.cs.length - (intOf s3).toNat)
  case atStart => exact ⟨0, Nat.zero_le _, by omega, rfl, H0.out.1, H0.out.2, early_zero _ _⟩
  case round =>
    obtain ⟨k, hk, hk16, rfl, hbw, hbx, he⟩ := hrel
    clear H0
    have x0 := hbx.at 0 (v := .slice s.a s.cs.length s.c) rfl
    have HE := Lib.hid (And.intro hbw (And.intro hbx he))
    by_cases hlt : k < s.cs.length
    · by_cases h15 : 15 < k
      · have hrf : r = false := HF.out.2.1 (by omega)
        subst hrf
        clear hbx hbw he
        go_wp2_with fail
        go_ret
        exact ⟨rfl, HE.out.1⟩
      · obtain ⟨x, hx⟩ := get_of_lt hlt
        obtain ⟨b1, o1, ea, _, cx⟩ := rowC (HOK.out.next hbw).cs hx
        have HX := Lib.hid hx
        have HEA := Lib.hid ea
        rw [ea] at x0
        clear hbx hbw he hx ea
        by_cases ha : x.beds.length ≤ 8
        · have HN := Lib.hid (early_succ HE.out.2.2 HX.out (by simp [ha]))
          go_wp2_with fail
          refine ⟨⟨k + 1, by omega, by omega, rfl, HE.out.1, HE.out.2.1, HN.out⟩, ?_⟩
          simp [intOf]
          omega
        · have hrf : r = false := HF.out.1 x (List.mem_of_getElem? HX.out) ha
          subst hrf
          go_wp2_with fail
          go_ret
          exact ⟨rfl, HE.out.1⟩
    · obtain rfl : k = s.cs.length := by omega
      clear hbx hbw he
      by_cases h15 : s.cs.length ≤ 15
      · have hrf : r = true := HF.out.2.2 h15 HE.out.2.2
        subst hrf
        go_wp2_with fail
        go_ret
        exact ⟨ret_bool (decide_eq_true (by omega)), HE.out.1⟩
      · have hrf : r = false := HF.out.2.1 h15
        subst hrf
        go_wp2_with fail
        go_ret
        exact ⟨ret_bool (decide_eq_false (by omega)), HE.out.1⟩
set_option maxHeartbeats 400000 in
theorem refUp_any (r : Rg) (most : Int) (w : World) : Calls Try.prog 68 #[rgV r, vi most] w fun e w' => e = .returned (.bool (rgU r most)) ∧ newer w w' := by
  obtain ⟨lo, hi⟩ := r
  unfold rgU
  dsimp only
  by_cases h1 : 0 ≤ lo
  · by_cases h2 : lo ≤ hi
    · by_cases h3 : hi ≤ most
      all_goals
        (go_enter Try.func68, Try.ntmps68
         go_wp2
         go_ret
         exact ⟨ret_bool (by simp <;> omega), (Below.refl _ _).alloc (Nat.le_refl _) _⟩)
    · go_enter Try.func68, Try.ntmps68
      go_wp2
      go_ret
      exact ⟨ret_bool (by simp <;> omega), (Below.refl _ _).alloc (Nat.le_refl _) _⟩
  · go_enter Try.func68, Try.ntmps68
    go_wp2
    go_ret
    exact ⟨ret_bool (by simp <;> omega), (Below.refl _ _).alloc (Nat.le_refl _) _⟩
/-- Is a column right, beside the first one? -/
def colP (n : Nat) (x : Cl) : Bool := inB x.beds.length 1 5 && decide (x.beds.length = n) && x.beds.all bdB
set_option maxRecDepth 100000 in
set_option maxHeartbeats 2000000 in
theorem right_any (s : Sm) (w : World) (hok : SmOk s w) (few : SmFew s) : Calls Try.prog 26 #[smV s] w fun e w' => e = .returned (.bool (slopeB s.sd)) ∧ newer w w' := by
  have H0 := Lib.hid (And.intro (newer_allocH w (.cells (smC s) 24)) (Whole.made w 24 (smC s)))
  have HOK := Lib.hid hok
  have HFW := Lib.hid few
  have hf1 : inB s.cs.length 1 12 = false → slopeB s.sd = false := fun h => by unfold slopeB; rw [sd_len, h]; rfl
  have hf2 : inB s.least 1 4 = false → slopeB s.sd = false := fun h => by
    unfold slopeB
    rw [show s.sd.least = s.least from rfl, h, Bool.and_false, Bool.false_and]
  have hf3 : ∀ x ∈ s.cs, colP s.sd.n x = false → slopeB s.sd = false := fun x hx h => by
    cases hv : slopeB s.sd with
    | false => rfl
    | true =>
      have hs := sdOk_iff.1 hv
      have hm : x.beds ∈ s.sd.cols := List.mem_map.2 ⟨x, hx, rfl⟩
      have h1 := hs.len _ hm
      have h2 := hs.beds
      have h3 : x.beds.all bdB = true := List.all_eq_true.2 fun b hb => hs.bd _ hm b hb
      unfold colP at h
      rw [h3, decide_eq_true h1, show inB x.beds.length 1 5 = true by simp [inB]; omega] at h
      cases h
  have ht : inB s.cs.length 1 12 = true → inB s.least 1 4 = true → early (fun x => !colP s.sd.n x) s.cs s.cs.length → slopeB s.sd = true := fun h1 h2 h3 => by
    have h4 : ∀ x ∈ s.cs, colP s.sd.n x = true := fun x hx => by
      obtain ⟨i, hi⟩ := List.mem_iff_getElem?.1 hx
      have h5 := h3 i x (List.getElem?_eq_some_iff.1 hi).1 hi
      simpa using h5
    have h6 : 0 < s.cs.length := by simp [inB] at h1; omega
    obtain ⟨x0, hx0⟩ := get_of_lt h6
    have h7 := h4 x0 (List.mem_of_getElem? hx0)
    have h8 := sd_n hx0
    unfold slopeB
    rw [sd_len, h1, show s.sd.least = s.least from rfl, h2, sd_all]
    unfold colP at h7
    rw [Bool.and_eq_true, Bool.and_eq_true] at h7
    rw [h8, h7.1.1, Bool.true_and, Bool.true_and, Bool.true_and, List.all_eq_true, ← h8]
    intro x hx
    have h9 := h4 x hx
    unfold colP at h9
    rw [Bool.and_eq_true, Bool.and_eq_true] at h9
    rw [Bool.and_eq_true]
    exact ⟨h9.1.2, h9.2⟩
  have HF := Lib.hid (And.intro hf1 (And.intro hf2 (And.intro hf3 ht)))
  clear hf1 hf2 hf3 ht
  obtain ⟨r, hr⟩ : ∃ r, r = slopeB s.sd := ⟨_, rfl⟩
  rw [← hr] at HF ⊢
  have x0 := H0.out.2.at 0 (v := .slice s.a s.cs.length s.c) rfl
  have x1 := H0.out.2.at 1 (v := vi s.least) rfl
  have C1 := Lib.hid (fun W => in_any s.cs.length 1 12 W)
  have C2 := Lib.hid (fun W => in_any s.least 1 4 W)
  clear hr hok few
  cases q1 : inB s.cs.length 1 12 with
  | false =>
    have hrf := HF.out.1 q1
    subst hrf
    rw [q1] at C1
    clear q1
    go_enter Try.func26, Try.ntmps26
    go_wp2_with fail
    refine (C1.out _).mono ?_
    rintro e w2 ⟨rfl, rfl⟩
    go_wp2_with fail
    go_ret
    exact ⟨rfl, H0.out.1⟩
  | true =>
    cases q2 : inB s.least 1 4 with
    | false =>
      have hrf := HF.out.2.1 q2
      subst hrf
      rw [q1] at C1
      rw [q2] at C2
      clear q1 q2
      go_enter Try.func26, Try.ntmps26
      go_wp2_with fail
      refine (C1.out _).mono ?_
      rintro e w2 ⟨rfl, rfl⟩
      go_wp2_with fail
      refine (C2.out _).mono ?_
      rintro e w2 ⟨rfl, rfl⟩
      go_wp2_with fail
      go_ret
      exact ⟨rfl, H0.out.1⟩
    | true =>
      have hl1 : 1 ≤ s.cs.length ∧ s.cs.length ≤ 12 := by simp [inB] at q1; omega
      have HT := Lib.hid (HF.out.2.2.2 q1 q2)
      rw [q1] at C1
      rw [q2] at C2
      obtain ⟨y0, hy0⟩ := get_of_lt (l := s.cs) (k := 0) (by omega)
      have hyn : y0.beds.length = s.sd.n := (sd_n hy0).symm
      obtain ⟨b1, o1, ea, _, cy⟩ := rowC (HOK.out.next H0.out.1).cs hy0
      simp only [Nat.add_zero] at cy
      obtain ⟨n, hn⟩ : ∃ n, n = s.sd.n := ⟨_, rfl⟩
      rw [hyn, ← hn] at cy
      rw [← hn] at HF HT
      have hnb : n ≤ 1000 := by have := HFW.out.bd y0 (List.mem_of_getElem? hy0); omega
      have HCY := Lib.hid (And.intro cy ea)
      have hcne : ¬ (s.cs = []) := by intro h; rw [h] at hl1; simp at hl1
      rw [ea] at x0
      clear q1 q2 hy0 hyn hn cy ea
      go_enter Try.func26, Try.ntmps26
      go_wp2_with fail
      refine (C1.out _).mono ?_
      rintro e w2 ⟨rfl, rfl⟩
      go_wp2_with fail
      refine (C2.out _).mono ?_
      rintro e w2 ⟨rfl, rfl⟩
      go_wp2_with fail
      go_loopw [3] (fun s3 wr => ∃ k : Nat, k ≤ s.cs.length ∧ s3 = vi k ∧ newer w wr ∧ Whole wr w.heap.size 24 (smC s) ∧ newer (w.alloc (.cells (smC s) 24)) wr ∧ early (fun x => !colP n x) s.cs k) (fun s3 _ => s.cs.length - (intOf s3).toNat)
      case atStart => exact ⟨0, Nat.zero_le _, rfl, H0.out.1, H0.out.2, Below.refl _ _, early_zero _ _⟩
      case round =>
        obtain ⟨k, hk, rfl, hbw, hbx, hbz, he⟩ := hrel
        clear H0 x0 x1 C1 C2
        have x0 := hbx.at 0 (v := .slice s.a s.cs.length s.c) rfl
        rw [HCY.out.2] at x0
        have cy := keep_cell HCY.out.1 hbz
        have HE := Lib.hid (And.intro hbw (And.intro hbx (And.intro hbz he)))
        clear hbx hbz he
        by_cases hlt : k < s.cs.length
        · obtain ⟨x, hx⟩ := get_of_lt hlt
          obtain ⟨b2, o2, ea, _, cx⟩ := rowC (HOK.out.next hbw).cs hx
          rw [HCY.out.2] at ea
          obtain ⟨rfl, rfl⟩ : b1 = b2 ∧ o1 = o2 := by simpa using ea
          have HX := Lib.hid hx
          have hxl := HFW.out.bd x (List.mem_of_getElem? hx)
          have HXM := Lib.hid (List.mem_of_getElem? hx)
          have hki : (k : Int) < s.cs.length := by omega
          have C3 := Lib.hid (fun W => in_any x.beds.length 1 5 W)
          have hcp : colP n x = (inB x.beds.length 1 5 && decide (x.beds.length = n) && x.beds.all bdB) := rfl
          clear hx ea hbw
          cases q3 : inB x.beds.length 1 5 with
          | false =>
            have hrf := HF.out.2.2.1 x HXM.out (by rw [hcp, q3]; rfl)
            subst hrf
            rw [q3] at C3
            clear q3 hcp
            go_upto_region 6 with fail
            refine wp_words (by kernel_rfl) (region_told_u 21 (by kernel_rfl) (by kernel_rfl) [false, false, false, false, false, false, false, false, false, true, true, true, true, true, true, true, true, true, true, true, true] (fun W => Below wr.heap.size wr W) newer [vIs (.pointer (some ⟨w.heap.size, 0, none⟩)), vIs (.slice (some ⟨b1, o1, none⟩) s.cs.length s.c), vIs (.int .i64 k), vIs (.pointer (some ⟨b1, o1 + k, none⟩)), vIs (.slice x.a x.beds.length x.cp), vIs (.int .i64 x.beds.length), vIs (.bool false), vIs (.bool true), vIs (.bool true), vIs (undef), vIs (undef), vIs (undef), vIs (undef), vIs (undef), vIs (undef), vIs (undef), vIs (undef), vIs (undef), vIs (undef), vIs (undef), vIs (undef)] ⟨rfl, rfl, rfl, rfl, rfl, rfl, rfl, rfl, rfl, (fun v W h => by obtain rfl : v = _ := h; simp), (fun v W h => by obtain rfl : v = _ := h; simp), (fun v W h => by obtain rfl : v = _ := h; simp), (fun v W h => by obtain rfl : v = _ := h; simp), (fun v W h => by obtain rfl : v = _ := h; simp), (fun v W h => by obtain rfl : v = _ := h; simp), (fun v W h => by obtain rfl : v = _ := h; simp), (fun v W h => by obtain rfl : v = _ := h; simp), (fun v W h => by obtain rfl : v = _ := h; simp), (fun v W h => by obtain rfl : v = _ := h; simp), (fun v W h => by obtain rfl : v = _ := h; simp), (fun v W h => by obtain rfl : v = _ := h; simp), trivial⟩ ⟨(fun h => Bool.noConfusion (show false = true from h)), (fun h => Bool.noConfusion (show false = true from h)), (fun h => Bool.noConfusion (show false = true from h)), (fun h => Bool.noConfusion (show false = true from h)), (fun h => Bool.noConfusion (show false = true from h)), (fun h => Bool.noConfusion (show false = true from h)), (fun h => Bool.noConfusion (show false = true from h)), (fun h => Bool.noConfusion (show false = true from h)), (fun h => Bool.noConfusion (show false = true from h)), (fun _ _ => rfl), (fun _ _ => rfl), (fun _ _ => rfl), (fun _ _ => rfl), (fun _ _ => rfl), (fun _ _ => rfl), (fun _ _ => rfl), (fun _ _ => rfl), (fun _ _ => rfl), (fun _ _ => rfl), (fun _ _ => rfl), (fun _ _ => rfl), trivial⟩ (fun h k => newer_trans h k) (pickD_stable _ ⟨vIs_st, vIs_st, vIs_st, vIs_st, vIs_st, vIs_st, vIs_st, vIs_st, vIs_st, vIs_st, vIs_st, vIs_st, vIs_st, vIs_st, vIs_st, vIs_st, vIs_st, vIs_st, vIs_st, vIs_st, vIs_st, trivial⟩) (Below.refl _ wr).drew (Below.refl _ _) ?_ ?_)
            · refine ⟨.inr ?_, .inr ?_, .inr ?_, .inr ?_, .inr ?_, .inr ?_, .inr ?_, .inr ?_, .inr ?_, .inl rfl, .inl rfl, .inl rfl, .inl rfl, .inl rfl, .inl rfl, .inl rfl, .inl rfl, .inl rfl, .inl rfl, .inl rfl, .inl rfl, trivial⟩
              · intro a W hG hR hO hp
                have h1 := hO.slot 1 (by kernel_rfl)
                refine wp_yields (v := .pointer (some ⟨w.heap.size, 0, none⟩)) ?_ ⟨_, rfl, rfl, Below.refl _ _, hG⟩
                simp [slotOf] at h1
                simp [execOp, go_sem, h1]
              · intro a W hG hR hO hp
                have h24 : slotOf a 24 = .pointer (some ⟨w.heap.size, 0, none⟩) := hp.1
                have c0 := keep_cell x0 hG
                refine wp_yields (v := .slice (some ⟨b1, o1, none⟩) s.cs.length s.c) ?_ ⟨_, rfl, rfl, Below.refl _ _, hG⟩
                simp [slotOf] at h24
                simp [execOp, go_sem, h24, c0]
              · intro a W hG hR hO hp
                have h3 := hO.slot 3 (by kernel_rfl)
                refine wp_yields (v := .int .i64 k) ?_ ⟨_, rfl, rfl, Below.refl _ _, hG⟩
                simp [slotOf] at h3
                simp [execOp, go_sem, h3]
              · intro a W hG hR hO hp
                have h25 : slotOf a 25 = .slice (some ⟨b1, o1, none⟩) s.cs.length s.c := hp.1
                have h26 : slotOf a 26 = .int .i64 k := hp.2.1
                refine wp_yields (v := .pointer (some ⟨b1, o1 + k, none⟩)) ?_ ⟨_, rfl, rfl, Below.refl _ _, hG⟩
                simp [slotOf] at h25 h26
                simp [execOp, go_sem, h25, h26, hki]
              · intro a W hG hR hO hp
                have h27 : slotOf a 27 = .pointer (some ⟨b1, o1 + k, none⟩) := hp.1
                have c0 := keep_cell cx hG
                refine wp_yields (v := .slice x.a x.beds.length x.cp) ?_ ⟨_, rfl, rfl, Below.refl _ _, hG⟩
                simp [slotOf] at h27
                simp [execOp, go_sem, h27, c0]
              · intro a W hG hR hO hp
                have h28 : slotOf a 28 = .slice x.a x.beds.length x.cp := hp.1
                refine wp_yields (v := .int .i64 x.beds.length) ?_ ⟨_, rfl, rfl, Below.refl _ _, hG⟩
                simp [slotOf] at h28
                simp [go_sem, h28]
              · intro a W hG hR hO hp
                have h29 : slotOf a 29 = .int .i64 x.beds.length := hp.1
                refine wp_enters (f := 50) (args := #[vi x.beds.length, vi 1, vi 5]) ?_ ((C3.out W).mono ?_)
                · simp [slotOf] at h29
                  simp [go_sem, h29]
                · rintro e w' ⟨rfl, rfl⟩
                  exact ⟨_, rfl, _, rfl, rfl, Below.refl _ _, hG⟩
              · intro a W hG hR hO hp
                have h30 : slotOf a 30 = .bool false := hp.1
                refine wp_yields (v := .bool true) ?_ ⟨_, rfl, rfl, Below.refl _ _, hG⟩
                simp [slotOf] at h30
                simp [execOp, go_sem, h30]
              · intro a W hG hR hO hp
                have h31 : slotOf a 31 = .bool true := hp.1
                refine wp_yields (v := .bool true) ?_ ⟨_, rfl, rfl, Below.refl _ _, hG⟩
                simp [slotOf] at h31
                simp [execOp, go_sem, h31]
            · intro W hG hR
              rintro _ rfl _ rfl _ rfl _ rfl _ rfl _ rfl _ rfl _ rfl _ rfl _ rfl _ rfl _ rfl _ rfl _ rfl _ rfl _ rfl _ rfl _ rfl _ rfl _ rfl _ rfl
              change wpList _ _ _ _ _ _
              simp only [Act.put, List.setIfInBounds_toArray, List.set_cons_zero, List.set_cons_succ, List.drop_succ_cons, List.drop_zero]
              have HE2 := Lib.hid (newer_trans HE.out.1 hG)
              clear hG hR cy cx x0
              go_wp2_with fail
              go_ret
              exact ⟨rfl, HE2.out⟩
          | true =>
            rw [q3] at C3
            by_cases hln : x.beds.length = n
            · have HB := Lib.hid (fun b (hb : b ∈ x.beds) (h : bdB b = false) => HF.out.2.2.1 x HXM.out (by
                rw [hcp, q3, show x.beds.all bdB = false from List.all_eq_false.2 ⟨b, hb, by simp [h]⟩, Bool.and_false]))
              have HBT : Hid (early (fun b => !bdB b) x.beds x.beds.length → colP n x = true) := Lib.hid (fun h => by
                rw [hcp, q3, decide_eq_true hln, Bool.true_and, Bool.true_and, List.all_eq_true]
                intro b hb
                obtain ⟨i, hi⟩ := List.mem_iff_getElem?.1 hb
                have h1 := h i b (List.getElem?_eq_some_iff.1 hi).1 hi
                simpa using h1)
              have hne : ((x.beds.length : Int) != n) = false := by simp [hln]
              clear q3 hcp hln
              go_upto_region 6 with fail
              refine wp_words (by kernel_rfl) (region_told_u 21 (by kernel_rfl) (by kernel_rfl) [false, false, false, false, false, false, false, false, false, false, false, false, false, false, false, false, false, false, false, false, false] (fun W => Below wr.heap.size wr W) newer [vIs (.pointer (some ⟨w.heap.size, 0, none⟩)), vIs (.slice (some ⟨b1, o1, none⟩) s.cs.length s.c), vIs (.int .i64 k), vIs (.pointer (some ⟨b1, o1 + k, none⟩)), vIs (.slice x.a x.beds.length x.cp), vIs (.int .i64 x.beds.length), vIs (.bool true), vIs (.bool false), vIs (.bool false), vIs (.pointer (some ⟨w.heap.size, 0, none⟩)), vIs (.slice (some ⟨b1, o1, none⟩) s.cs.length s.c), vIs (.int .i64 k), vIs (.pointer (some ⟨b1, o1 + k, none⟩)), vIs (.slice x.a x.beds.length x.cp), vIs (.int .i64 x.beds.length), vIs (.pointer (some ⟨w.heap.size, 0, none⟩)), vIs (.slice (some ⟨b1, o1, none⟩) s.cs.length s.c), vIs (.pointer (some ⟨b1, o1, none⟩)), vIs (.slice y0.a n y0.cp), vIs (.int .i64 n), vIs (.bool false)] ⟨rfl, rfl, rfl, rfl, rfl, rfl, rfl, rfl, rfl, (fun v W h => by obtain rfl : v = _ := h; rfl), (fun v W h => by obtain rfl : v = _ := h; rfl), (fun v W h => by obtain rfl : v = _ := h; rfl), (fun v W h => by obtain rfl : v = _ := h; rfl), (fun v W h => by obtain rfl : v = _ := h; rfl), (fun v W h => by obtain rfl : v = _ := h; rfl), (fun v W h => by obtain rfl : v = _ := h; rfl), (fun v W h => by obtain rfl : v = _ := h; rfl), (fun v W h => by obtain rfl : v = _ := h; rfl), (fun v W h => by obtain rfl : v = _ := h; rfl), (fun v W h => by obtain rfl : v = _ := h; rfl), (fun v W h => by obtain rfl : v = _ := h; rfl), trivial⟩ ⟨(fun h => Bool.noConfusion (show false = true from h)), (fun h => Bool.noConfusion (show false = true from h)), (fun h => Bool.noConfusion (show false = true from h)), (fun h => Bool.noConfusion (show false = true from h)), (fun h => Bool.noConfusion (show false = true from h)), (fun h => Bool.noConfusion (show false = true from h)), (fun h => Bool.noConfusion (show false = true from h)), (fun h => Bool.noConfusion (show false = true from h)), (fun h => Bool.noConfusion (show false = true from h)), (fun h => Bool.noConfusion (show false = true from h)), (fun h => Bool.noConfusion (show false = true from h)), (fun h => Bool.noConfusion (show false = true from h)), (fun h => Bool.noConfusion (show false = true from h)), (fun h => Bool.noConfusion (show false = true from h)), (fun h => Bool.noConfusion (show false = true from h)), (fun h => Bool.noConfusion (show false = true from h)), (fun h => Bool.noConfusion (show false = true from h)), (fun h => Bool.noConfusion (show false = true from h)), (fun h => Bool.noConfusion (show false = true from h)), (fun h => Bool.noConfusion (show false = true from h)), (fun h => Bool.noConfusion (show false = true from h)), trivial⟩ (fun h k => newer_trans h k) (pickD_stable _ ⟨vIs_st, vIs_st, vIs_st, vIs_st, vIs_st, vIs_st, vIs_st, vIs_st, vIs_st, vIs_st, vIs_st, vIs_st, vIs_st, vIs_st, vIs_st, vIs_st, vIs_st, vIs_st, vIs_st, vIs_st, vIs_st, trivial⟩) (Below.refl _ wr).drew (Below.refl _ _) ?_ ?_)
              · refine ⟨.inr ?_, .inr ?_, .inr ?_, .inr ?_, .inr ?_, .inr ?_, .inr ?_, .inr ?_, .inr ?_, .inr ?_, .inr ?_, .inr ?_, .inr ?_, .inr ?_, .inr ?_, .inr ?_, .inr ?_, .inr ?_, .inr ?_, .inr ?_, .inr ?_, trivial⟩
                · intro a W hG hR hO hp
                  have h1 := hO.slot 1 (by kernel_rfl)
                  refine wp_yields (v := .pointer (some ⟨w.heap.size, 0, none⟩)) ?_ ⟨_, rfl, rfl, Below.refl _ _, hG⟩
                  simp [slotOf] at h1
                  simp [execOp, go_sem, h1]
                · intro a W hG hR hO hp
                  have h24 : slotOf a 24 = .pointer (some ⟨w.heap.size, 0, none⟩) := hp.1
                  have c0 := keep_cell x0 hG
                  refine wp_yields (v := .slice (some ⟨b1, o1, none⟩) s.cs.length s.c) ?_ ⟨_, rfl, rfl, Below.refl _ _, hG⟩
                  simp [slotOf] at h24
                  simp [execOp, go_sem, h24, c0]
                · intro a W hG hR hO hp
                  have h3 := hO.slot 3 (by kernel_rfl)
                  refine wp_yields (v := .int .i64 k) ?_ ⟨_, rfl, rfl, Below.refl _ _, hG⟩
                  simp [slotOf] at h3
                  simp [execOp, go_sem, h3]
                · intro a W hG hR hO hp
                  have h25 : slotOf a 25 = .slice (some ⟨b1, o1, none⟩) s.cs.length s.c := hp.1
                  have h26 : slotOf a 26 = .int .i64 k := hp.2.1
                  refine wp_yields (v := .pointer (some ⟨b1, o1 + k, none⟩)) ?_ ⟨_, rfl, rfl, Below.refl _ _, hG⟩
                  simp [slotOf] at h25 h26
                  simp [execOp, go_sem, h25, h26, hki]
                · intro a W hG hR hO hp
                  have h27 : slotOf a 27 = .pointer (some ⟨b1, o1 + k, none⟩) := hp.1
                  have c0 := keep_cell cx hG
                  refine wp_yields (v := .slice x.a x.beds.length x.cp) ?_ ⟨_, rfl, rfl, Below.refl _ _, hG⟩
                  simp [slotOf] at h27
                  simp [execOp, go_sem, h27, c0]
                · intro a W hG hR hO hp
                  have h28 : slotOf a 28 = .slice x.a x.beds.length x.cp := hp.1
                  refine wp_yields (v := .int .i64 x.beds.length) ?_ ⟨_, rfl, rfl, Below.refl _ _, hG⟩
                  simp [slotOf] at h28
                  simp [go_sem, h28]
                · intro a W hG hR hO hp
                  have h29 : slotOf a 29 = .int .i64 x.beds.length := hp.1
                  refine wp_enters (f := 50) (args := #[vi x.beds.length, vi 1, vi 5]) ?_ ((C3.out W).mono ?_)
                  · simp [slotOf] at h29
                    simp [go_sem, h29]
                  · rintro e w' ⟨rfl, rfl⟩
                    exact ⟨_, rfl, _, rfl, rfl, Below.refl _ _, hG⟩
                · intro a W hG hR hO hp
                  have h30 : slotOf a 30 = .bool true := hp.1
                  refine wp_yields (v := .bool false) ?_ ⟨_, rfl, rfl, Below.refl _ _, hG⟩
                  simp [slotOf] at h30
                  simp [execOp, go_sem, h30]
                · intro a W hG hR hO hp
                  have h31 : slotOf a 31 = .bool false := hp.1
                  refine wp_yields (v := .bool false) ?_ ⟨_, rfl, rfl, Below.refl _ _, hG⟩
                  simp [slotOf] at h31
                  simp [execOp, go_sem, h31]
                · intro a W hG hR hO hp
                  have h1 := hO.slot 1 (by kernel_rfl)
                  refine wp_yields (v := .pointer (some ⟨w.heap.size, 0, none⟩)) ?_ ⟨_, rfl, rfl, Below.refl _ _, hG⟩
                  simp [slotOf] at h1
                  simp [execOp, go_sem, h1]
                · intro a W hG hR hO hp
                  have h33 : slotOf a 33 = .pointer (some ⟨w.heap.size, 0, none⟩) := hp.1
                  have c0 := keep_cell x0 hG
                  refine wp_yields (v := .slice (some ⟨b1, o1, none⟩) s.cs.length s.c) ?_ ⟨_, rfl, rfl, Below.refl _ _, hG⟩
                  simp [slotOf] at h33
                  simp [execOp, go_sem, h33, c0]
                · intro a W hG hR hO hp
                  have h3 := hO.slot 3 (by kernel_rfl)
                  refine wp_yields (v := .int .i64 k) ?_ ⟨_, rfl, rfl, Below.refl _ _, hG⟩
                  simp [slotOf] at h3
                  simp [execOp, go_sem, h3]
                · intro a W hG hR hO hp
                  have h34 : slotOf a 34 = .slice (some ⟨b1, o1, none⟩) s.cs.length s.c := hp.1
                  have h35 : slotOf a 35 = .int .i64 k := hp.2.1
                  refine wp_yields (v := .pointer (some ⟨b1, o1 + k, none⟩)) ?_ ⟨_, rfl, rfl, Below.refl _ _, hG⟩
                  simp [slotOf] at h34 h35
                  simp [execOp, go_sem, h34, h35, hki]
                · intro a W hG hR hO hp
                  have h36 : slotOf a 36 = .pointer (some ⟨b1, o1 + k, none⟩) := hp.1
                  have c0 := keep_cell cx hG
                  refine wp_yields (v := .slice x.a x.beds.length x.cp) ?_ ⟨_, rfl, rfl, Below.refl _ _, hG⟩
                  simp [slotOf] at h36
                  simp [execOp, go_sem, h36, c0]
                · intro a W hG hR hO hp
                  have h37 : slotOf a 37 = .slice x.a x.beds.length x.cp := hp.1
                  refine wp_yields (v := .int .i64 x.beds.length) ?_ ⟨_, rfl, rfl, Below.refl _ _, hG⟩
                  simp [slotOf] at h37
                  simp [go_sem, h37]
                · intro a W hG hR hO hp
                  have h1 := hO.slot 1 (by kernel_rfl)
                  refine wp_yields (v := .pointer (some ⟨w.heap.size, 0, none⟩)) ?_ ⟨_, rfl, rfl, Below.refl _ _, hG⟩
                  simp [slotOf] at h1
                  simp [execOp, go_sem, h1]
                · intro a W hG hR hO hp
                  have h39 : slotOf a 39 = .pointer (some ⟨w.heap.size, 0, none⟩) := hp.1
                  have c0 := keep_cell x0 hG
                  refine wp_yields (v := .slice (some ⟨b1, o1, none⟩) s.cs.length s.c) ?_ ⟨_, rfl, rfl, Below.refl _ _, hG⟩
                  simp [slotOf] at h39
                  simp [execOp, go_sem, h39, c0]
                · intro a W hG hR hO hp
                  have h40 : slotOf a 40 = .slice (some ⟨b1, o1, none⟩) s.cs.length s.c := hp.1
                  refine wp_yields (v := .pointer (some ⟨b1, o1, none⟩)) ?_ ⟨_, rfl, rfl, Below.refl _ _, hG⟩
                  simp [slotOf] at h40
                  simp [execOp, go_sem, h40, hcne]
                · intro a W hG hR hO hp
                  have h41 : slotOf a 41 = .pointer (some ⟨b1, o1, none⟩) := hp.1
                  have c0 := keep_cell cy hG
                  refine wp_yields (v := .slice y0.a n y0.cp) ?_ ⟨_, rfl, rfl, Below.refl _ _, hG⟩
                  simp [slotOf] at h41
                  simp [execOp, go_sem, h41, c0]
                · intro a W hG hR hO hp
                  have h42 : slotOf a 42 = .slice y0.a n y0.cp := hp.1
                  refine wp_yields (v := .int .i64 n) ?_ ⟨_, rfl, rfl, Below.refl _ _, hG⟩
                  simp [slotOf] at h42
                  simp [go_sem, h42]
                · intro a W hG hR hO hp
                  have h38 : slotOf a 38 = .int .i64 x.beds.length := hp.1
                  have h43 : slotOf a 43 = .int .i64 n := hp.2.1
                  refine wp_yields (v := .bool false) ?_ ⟨_, rfl, rfl, Below.refl _ _, hG⟩
                  simp [slotOf] at h38 h43
                  simp [execOp, go_sem, h38, h43, hne]
              · intro W hG hR
                rintro _ rfl _ rfl _ rfl _ rfl _ rfl _ rfl _ rfl _ rfl _ rfl _ rfl _ rfl _ rfl _ rfl _ rfl _ rfl _ rfl _ rfl _ rfl _ rfl _ rfl _ rfl
                change wpList _ _ _ _ _ _
                simp only [Act.put, List.setIfInBounds_toArray, List.set_cons_zero, List.set_cons_succ, List.drop_succ_cons, List.drop_zero]
                have HE2 := Lib.hid (And.intro (newer_trans HE.out.1 hG) (And.intro (HE.out.2.1.below hG HE.out.2.1.lt) (newer_trans HE.out.2.2.1 hG)))
                clear hG hR cy cx x0 hne
                go_wp2_with fail
                go_loopw [4] (fun s4 wr => ∃ j : Nat, j ≤ x.beds.length ∧ s4 = vi j ∧ newer w wr ∧ Whole wr w.heap.size 24 (smC s) ∧ newer (w.alloc (.cells (smC s) 24)) wr ∧ early (fun b => !bdB b) x.beds j) (fun s4 _ => x.beds.length - (intOf s4).toNat)
                case atStart => exact ⟨0, Nat.zero_le _, rfl, HE2.out.1, HE2.out.2.1, HE2.out.2.2, early_zero _ _⟩
                case round =>
                  obtain ⟨j, hj, rfl, hbw, hbx, hbz, he⟩ := hrel
                  have x0 := hbx.at 0 (v := .slice s.a s.cs.length s.c) rfl
                  rw [HCY.out.2] at x0
                  have HE3 := Lib.hid (And.intro hbw (And.intro hbx (And.intro hbz he)))
                  obtain ⟨b3, o3, ea, _, cx⟩ := rowC (HOK.out.next hbw).cs HX.out
                  rw [HCY.out.2] at ea
                  obtain ⟨rfl, rfl⟩ : b1 = b3 ∧ o1 = o3 := by simpa using ea
                  clear HE2 ea hbx hbz he
                  by_cases hlt2 : j < x.beds.length
                  · obtain ⟨b, hb⟩ := get_of_lt hlt2
                    obtain ⟨b4, o4, e4, _, d0, d1, d2, d3, d4, d5, d6, d7⟩ := row8 ((HOK.out.next hbw).bd x HXM.out) hb
                    rw [e4] at cx
                    have hji : (j : Int) < x.beds.length := by omega
                    have HBM := Lib.hid (And.intro hb (List.mem_of_getElem? hb))
                    have D1 := Lib.hid (fun W => in_any b.drive (-100000) 100000 W)
                    have D2 := Lib.hid (fun W => in_any b.normal 0 100000 W)
                    have D3 := Lib.hid (fun W => refUp_any b.fr 2000 W)
                    have D4 := Lib.hid (fun W => refUp_any b.co 100000 W)
                    have D5 := Lib.hid (fun W => refUp_any b.wa 100000 W)
                    have hbd : bdB b = (inB b.drive (-100000) 100000 && inB b.normal 0 100000 && rgU b.fr 2000 && rgU b.co 100000 && rgU b.wa 100000) := rfl
                    have e5 := newer_allocH wr (.cells (bdC b) 69)
                    have HE4 := Lib.hid (And.intro (newer_trans HE3.out.1 e5) (And.intro (HE3.out.2.1.below e5 HE3.out.2.1.lt) (And.intro (newer_trans HE3.out.2.2.1 e5) (Whole.made wr 69 (bdC b)))))
                    clear hb hbw e4 e5
                    go_upto_region 12 with fail
                    refine genQ (fun X => newer w X ∧ Whole X w.heap.size 24 (smC s) ∧ newer (w.alloc (.cells (smC s) 24)) X ∧ Whole X wr.heap.size 69 (bdC b)) HE4.out ?_
                    clear HE4 d0 d1 d2 d3 d4 d5 d6 d7 cx x0
                    obtain ⟨bb, hbb⟩ : ∃ bb, bb = wr.heap.size := ⟨_, rfl⟩
                    rw [← hbb]
                    rintro w5 ⟨p1, p2, p3, p4⟩
                    have z0 := p4.at 0 (v := vi b.drive) rfl
                    have z1 := p4.at 1 (v := vi b.normal) rfl
                    have z2 := p4.at 2 (v := vi b.fr.lo) rfl
                    have z3 := p4.at 3 (v := vi b.fr.hi) rfl
                    have z4 := p4.at 4 (v := vi b.co.lo) rfl
                    have z5 := p4.at 5 (v := vi b.co.hi) rfl
                    have z6 := p4.at 6 (v := vi b.wa.lo) rfl
                    have z7 := p4.at 7 (v := vi b.wa.hi) rfl
                    have HE5 := Lib.hid (And.intro p1 (And.intro p2 p3))
                    clear p1 p2 p3 p4 hbb
                    cases t1 : inB b.drive (-100000) 100000 with
                    | false =>
                      rw [t1] at D1
                      have hrf := HB.out b HBM.out.2 (by rw [hbd, t1]; simp)
                      subst hrf
                      clear t1 hbd
                      go_wp2_with fail
                      refine (D1.out _).mono ?_
                      rintro e w6 ⟨rfl, rfl⟩
                      go_wp2_with fail
                      go_ret
                      exact ⟨rfl, HE5.out.1⟩
                    | true =>
                      rw [t1] at D1
                      cases t2 : inB b.normal 0 100000 with
                      | false =>
                        rw [t2] at D2
                        have hrf := HB.out b HBM.out.2 (by rw [hbd, t1, t2]; simp)
                        subst hrf
                        clear t1 t2 hbd
                        go_wp2_with fail
                        refine (D1.out _).mono ?_
                        rintro e w6 ⟨rfl, rfl⟩
                        go_wp2_with fail
                        refine (D2.out _).mono ?_
                        rintro e w6 ⟨rfl, rfl⟩
                        go_wp2_with fail
                        go_ret
                        exact ⟨rfl, HE5.out.1⟩
                      | true =>
                        rw [t2] at D2
                        cases t3 : rgU b.fr 2000 with
                        | false =>
                          rw [t3] at D3
                          have hrf := HB.out b HBM.out.2 (by rw [hbd, t1, t2, t3]; simp)
                          subst hrf
                          clear t1 t2 t3 hbd
                          go_wp2_with fail
                          refine (D1.out _).mono ?_
                          rintro e w6 ⟨rfl, rfl⟩
                          go_wp2_with fail
                          refine (D2.out _).mono ?_
                          rintro e w6 ⟨rfl, rfl⟩
                          go_wp2_with fail
                          refine (D3.out _).mono ?_
                          rintro e v3 ⟨rfl, hb⟩
                          have HF3 := Lib.hid (And.intro (And.intro (newer_trans HE5.out.1 hb) (And.intro (HE5.out.2.1.below hb HE5.out.2.1.lt) (newer_trans HE5.out.2.2 hb))) hb)
                          clear hb
                          have y4_3 := keep_cell z4 HF3.out.2
                          have y5_3 := keep_cell z5 HF3.out.2
                          have y6_3 := keep_cell z6 HF3.out.2
                          have y7_3 := keep_cell z7 HF3.out.2
                          go_wp2_with fail
                          go_ret
                          exact ⟨rfl, HF3.out.1.1⟩
                        | true =>
                          rw [t3] at D3
                          cases t4 : rgU b.co 100000 with
                          | false =>
                            rw [t4] at D4
                            have hrf := HB.out b HBM.out.2 (by rw [hbd, t1, t2, t3, t4]; simp)
                            subst hrf
                            clear t1 t2 t3 t4 hbd
                            go_wp2_with fail
                            refine (D1.out _).mono ?_
                            rintro e w6 ⟨rfl, rfl⟩
                            go_wp2_with fail
                            refine (D2.out _).mono ?_
                            rintro e w6 ⟨rfl, rfl⟩
                            go_wp2_with fail
                            refine (D3.out _).mono ?_
                            rintro e v3 ⟨rfl, hb⟩
                            have HF3 := Lib.hid (And.intro (And.intro (newer_trans HE5.out.1 hb) (And.intro (HE5.out.2.1.below hb HE5.out.2.1.lt) (newer_trans HE5.out.2.2 hb))) hb)
                            clear hb
                            have y4_3 := keep_cell z4 HF3.out.2
                            have y5_3 := keep_cell z5 HF3.out.2
                            have y6_3 := keep_cell z6 HF3.out.2
                            have y7_3 := keep_cell z7 HF3.out.2
                            go_wp2_with fail
                            refine (D4.out _).mono ?_
                            rintro e v4 ⟨rfl, hb⟩
                            have HF4 := Lib.hid (And.intro (And.intro (newer_trans HF3.out.1.1 hb) (And.intro (HF3.out.1.2.1.below hb HF3.out.1.2.1.lt) (newer_trans HF3.out.1.2.2 hb))) (newer_trans HF3.out.2 hb))
                            clear hb
                            have y6_4 := keep_cell z6 HF4.out.2
                            have y7_4 := keep_cell z7 HF4.out.2
                            go_wp2_with fail
                            go_ret
                            exact ⟨rfl, HF4.out.1.1⟩
                          | true =>
                            rw [t4] at D4
                            cases t5 : rgU b.wa 100000 with
                            | false =>
                              rw [t5] at D5
                              have hrf := HB.out b HBM.out.2 (by rw [hbd, t1, t2, t3, t4, t5]; simp)
                              subst hrf
                              clear t1 t2 t3 t4 t5 hbd
                              go_wp2_with fail
                              refine (D1.out _).mono ?_
                              rintro e w6 ⟨rfl, rfl⟩
                              go_wp2_with fail
                              refine (D2.out _).mono ?_
                              rintro e w6 ⟨rfl, rfl⟩
                              go_wp2_with fail
                              refine (D3.out _).mono ?_
                              rintro e v3 ⟨rfl, hb⟩
                              have HF3 := Lib.hid (And.intro (And.intro (newer_trans HE5.out.1 hb) (And.intro (HE5.out.2.1.below hb HE5.out.2.1.lt) (newer_trans HE5.out.2.2 hb))) hb)
                              clear hb
                              have y4_3 := keep_cell z4 HF3.out.2
                              have y5_3 := keep_cell z5 HF3.out.2
                              have y6_3 := keep_cell z6 HF3.out.2
                              have y7_3 := keep_cell z7 HF3.out.2
                              go_wp2_with fail
                              refine (D4.out _).mono ?_
                              rintro e v4 ⟨rfl, hb⟩
                              have HF4 := Lib.hid (And.intro (And.intro (newer_trans HF3.out.1.1 hb) (And.intro (HF3.out.1.2.1.below hb HF3.out.1.2.1.lt) (newer_trans HF3.out.1.2.2 hb))) (newer_trans HF3.out.2 hb))
                              clear hb
                              have y6_4 := keep_cell z6 HF4.out.2
                              have y7_4 := keep_cell z7 HF4.out.2
                              go_wp2_with fail
                              refine (D5.out _).mono ?_
                              rintro e v5 ⟨rfl, hb⟩
                              have HF5 := Lib.hid (And.intro (And.intro (newer_trans HF4.out.1.1 hb) (And.intro (HF4.out.1.2.1.below hb HF4.out.1.2.1.lt) (newer_trans HF4.out.1.2.2 hb))) (newer_trans HF4.out.2 hb))
                              clear hb
                              go_wp2_with fail
                              go_ret
                              exact ⟨rfl, HF5.out.1.1⟩
                            | true =>
                              rw [t5] at D5
                              have HN := Lib.hid (early_succ HE3.out.2.2.2 HBM.out.1 (show (!bdB b) = false by rw [hbd, t1, t2, t3, t4, t5]; rfl))
                              clear t1 t2 t3 t4 t5 hbd
                              go_wp2_with fail
                              refine (D1.out _).mono ?_
                              rintro e w6 ⟨rfl, rfl⟩
                              go_wp2_with fail
                              refine (D2.out _).mono ?_
                              rintro e w6 ⟨rfl, rfl⟩
                              go_wp2_with fail
                              refine (D3.out _).mono ?_
                              rintro e v3 ⟨rfl, hb⟩
                              have HF3 := Lib.hid (And.intro (And.intro (newer_trans HE5.out.1 hb) (And.intro (HE5.out.2.1.below hb HE5.out.2.1.lt) (newer_trans HE5.out.2.2 hb))) hb)
                              clear hb
                              have y4_3 := keep_cell z4 HF3.out.2
                              have y5_3 := keep_cell z5 HF3.out.2
                              have y6_3 := keep_cell z6 HF3.out.2
                              have y7_3 := keep_cell z7 HF3.out.2
                              go_wp2_with fail
                              refine (D4.out _).mono ?_
                              rintro e v4 ⟨rfl, hb⟩
                              have HF4 := Lib.hid (And.intro (And.intro (newer_trans HF3.out.1.1 hb) (And.intro (HF3.out.1.2.1.below hb HF3.out.1.2.1.lt) (newer_trans HF3.out.1.2.2 hb))) (newer_trans HF3.out.2 hb))
                              clear hb
                              have y6_4 := keep_cell z6 HF4.out.2
                              have y7_4 := keep_cell z7 HF4.out.2
                              go_wp2_with fail
                              refine (D5.out _).mono ?_
                              rintro e v5 ⟨rfl, hb⟩
                              have HF5 := Lib.hid (And.intro (And.intro (newer_trans HF4.out.1.1 hb) (And.intro (HF4.out.1.2.1.below hb HF4.out.1.2.1.lt) (newer_trans HF4.out.1.2.2 hb))) (newer_trans HF4.out.2 hb))
                              clear hb
                              go_wp2_with fail
                              refine ⟨⟨j + 1, by omega, rfl, HF5.out.1.1, HF5.out.1.2.1, HF5.out.1.2.2, HN.out⟩, ?_⟩
                              simp [intOf]
                              omega
                  · obtain rfl : j = x.beds.length := by omega
                    have HC := Lib.hid (early_succ HE.out.2.2.2 HX.out (by rw [HBT.out HE3.out.2.2.2]; rfl))
                    go_wp2_with fail
                    refine ⟨⟨k + 1, by omega, rfl, HE3.out.1, HE3.out.2.1, HE3.out.2.2.1, HC.out⟩, ?_⟩
                    simp [intOf]
                    omega
            · have hne : ((x.beds.length : Int) != n) = true := by simp; omega
              have hrf := HF.out.2.2.1 x HXM.out (by rw [hcp, q3, decide_eq_false hln]; rfl)
              subst hrf
              clear q3 hcp
              go_upto_region 6 with fail
              refine wp_words (by kernel_rfl) (region_told_u 21 (by kernel_rfl) (by kernel_rfl) [false, false, false, false, false, false, false, false, false, false, false, false, false, false, false, false, false, false, false, false, false] (fun W => Below wr.heap.size wr W) newer [vIs (.pointer (some ⟨w.heap.size, 0, none⟩)), vIs (.slice (some ⟨b1, o1, none⟩) s.cs.length s.c), vIs (.int .i64 k), vIs (.pointer (some ⟨b1, o1 + k, none⟩)), vIs (.slice x.a x.beds.length x.cp), vIs (.int .i64 x.beds.length), vIs (.bool true), vIs (.bool false), vIs (.bool false), vIs (.pointer (some ⟨w.heap.size, 0, none⟩)), vIs (.slice (some ⟨b1, o1, none⟩) s.cs.length s.c), vIs (.int .i64 k), vIs (.pointer (some ⟨b1, o1 + k, none⟩)), vIs (.slice x.a x.beds.length x.cp), vIs (.int .i64 x.beds.length), vIs (.pointer (some ⟨w.heap.size, 0, none⟩)), vIs (.slice (some ⟨b1, o1, none⟩) s.cs.length s.c), vIs (.pointer (some ⟨b1, o1, none⟩)), vIs (.slice y0.a n y0.cp), vIs (.int .i64 n), vIs (.bool true)] ⟨rfl, rfl, rfl, rfl, rfl, rfl, rfl, rfl, rfl, (fun v W h => by obtain rfl : v = _ := h; rfl), (fun v W h => by obtain rfl : v = _ := h; rfl), (fun v W h => by obtain rfl : v = _ := h; rfl), (fun v W h => by obtain rfl : v = _ := h; rfl), (fun v W h => by obtain rfl : v = _ := h; rfl), (fun v W h => by obtain rfl : v = _ := h; rfl), (fun v W h => by obtain rfl : v = _ := h; rfl), (fun v W h => by obtain rfl : v = _ := h; rfl), (fun v W h => by obtain rfl : v = _ := h; rfl), (fun v W h => by obtain rfl : v = _ := h; rfl), (fun v W h => by obtain rfl : v = _ := h; rfl), (fun v W h => by obtain rfl : v = _ := h; rfl), trivial⟩ ⟨(fun h => Bool.noConfusion (show false = true from h)), (fun h => Bool.noConfusion (show false = true from h)), (fun h => Bool.noConfusion (show false = true from h)), (fun h => Bool.noConfusion (show false = true from h)), (fun h => Bool.noConfusion (show false = true from h)), (fun h => Bool.noConfusion (show false = true from h)), (fun h => Bool.noConfusion (show false = true from h)), (fun h => Bool.noConfusion (show false = true from h)), (fun h => Bool.noConfusion (show false = true from h)), (fun h => Bool.noConfusion (show false = true from h)), (fun h => Bool.noConfusion (show false = true from h)), (fun h => Bool.noConfusion (show false = true from h)), (fun h => Bool.noConfusion (show false = true from h)), (fun h => Bool.noConfusion (show false = true from h)), (fun h => Bool.noConfusion (show false = true from h)), (fun h => Bool.noConfusion (show false = true from h)), (fun h => Bool.noConfusion (show false = true from h)), (fun h => Bool.noConfusion (show false = true from h)), (fun h => Bool.noConfusion (show false = true from h)), (fun h => Bool.noConfusion (show false = true from h)), (fun h => Bool.noConfusion (show false = true from h)), trivial⟩ (fun h k => newer_trans h k) (pickD_stable _ ⟨vIs_st, vIs_st, vIs_st, vIs_st, vIs_st, vIs_st, vIs_st, vIs_st, vIs_st, vIs_st, vIs_st, vIs_st, vIs_st, vIs_st, vIs_st, vIs_st, vIs_st, vIs_st, vIs_st, vIs_st, vIs_st, trivial⟩) (Below.refl _ wr).drew (Below.refl _ _) ?_ ?_)
              · refine ⟨.inr ?_, .inr ?_, .inr ?_, .inr ?_, .inr ?_, .inr ?_, .inr ?_, .inr ?_, .inr ?_, .inr ?_, .inr ?_, .inr ?_, .inr ?_, .inr ?_, .inr ?_, .inr ?_, .inr ?_, .inr ?_, .inr ?_, .inr ?_, .inr ?_, trivial⟩
                · intro a W hG hR hO hp
                  have h1 := hO.slot 1 (by kernel_rfl)
                  refine wp_yields (v := .pointer (some ⟨w.heap.size, 0, none⟩)) ?_ ⟨_, rfl, rfl, Below.refl _ _, hG⟩
                  simp [slotOf] at h1
                  simp [execOp, go_sem, h1]
                · intro a W hG hR hO hp
                  have h24 : slotOf a 24 = .pointer (some ⟨w.heap.size, 0, none⟩) := hp.1
                  have c0 := keep_cell x0 hG
                  refine wp_yields (v := .slice (some ⟨b1, o1, none⟩) s.cs.length s.c) ?_ ⟨_, rfl, rfl, Below.refl _ _, hG⟩
                  simp [slotOf] at h24
                  simp [execOp, go_sem, h24, c0]
                · intro a W hG hR hO hp
                  have h3 := hO.slot 3 (by kernel_rfl)
                  refine wp_yields (v := .int .i64 k) ?_ ⟨_, rfl, rfl, Below.refl _ _, hG⟩
                  simp [slotOf] at h3
                  simp [execOp, go_sem, h3]
                · intro a W hG hR hO hp
                  have h25 : slotOf a 25 = .slice (some ⟨b1, o1, none⟩) s.cs.length s.c := hp.1
                  have h26 : slotOf a 26 = .int .i64 k := hp.2.1
                  refine wp_yields (v := .pointer (some ⟨b1, o1 + k, none⟩)) ?_ ⟨_, rfl, rfl, Below.refl _ _, hG⟩
                  simp [slotOf] at h25 h26
                  simp [execOp, go_sem, h25, h26, hki]
                · intro a W hG hR hO hp
                  have h27 : slotOf a 27 = .pointer (some ⟨b1, o1 + k, none⟩) := hp.1
                  have c0 := keep_cell cx hG
                  refine wp_yields (v := .slice x.a x.beds.length x.cp) ?_ ⟨_, rfl, rfl, Below.refl _ _, hG⟩
                  simp [slotOf] at h27
                  simp [execOp, go_sem, h27, c0]
                · intro a W hG hR hO hp
                  have h28 : slotOf a 28 = .slice x.a x.beds.length x.cp := hp.1
                  refine wp_yields (v := .int .i64 x.beds.length) ?_ ⟨_, rfl, rfl, Below.refl _ _, hG⟩
                  simp [slotOf] at h28
                  simp [go_sem, h28]
                · intro a W hG hR hO hp
                  have h29 : slotOf a 29 = .int .i64 x.beds.length := hp.1
                  refine wp_enters (f := 50) (args := #[vi x.beds.length, vi 1, vi 5]) ?_ ((C3.out W).mono ?_)
                  · simp [slotOf] at h29
                    simp [go_sem, h29]
                  · rintro e w' ⟨rfl, rfl⟩
                    exact ⟨_, rfl, _, rfl, rfl, Below.refl _ _, hG⟩
                · intro a W hG hR hO hp
                  have h30 : slotOf a 30 = .bool true := hp.1
                  refine wp_yields (v := .bool false) ?_ ⟨_, rfl, rfl, Below.refl _ _, hG⟩
                  simp [slotOf] at h30
                  simp [execOp, go_sem, h30]
                · intro a W hG hR hO hp
                  have h31 : slotOf a 31 = .bool false := hp.1
                  refine wp_yields (v := .bool false) ?_ ⟨_, rfl, rfl, Below.refl _ _, hG⟩
                  simp [slotOf] at h31
                  simp [execOp, go_sem, h31]
                · intro a W hG hR hO hp
                  have h1 := hO.slot 1 (by kernel_rfl)
                  refine wp_yields (v := .pointer (some ⟨w.heap.size, 0, none⟩)) ?_ ⟨_, rfl, rfl, Below.refl _ _, hG⟩
                  simp [slotOf] at h1
                  simp [execOp, go_sem, h1]
                · intro a W hG hR hO hp
                  have h33 : slotOf a 33 = .pointer (some ⟨w.heap.size, 0, none⟩) := hp.1
                  have c0 := keep_cell x0 hG
                  refine wp_yields (v := .slice (some ⟨b1, o1, none⟩) s.cs.length s.c) ?_ ⟨_, rfl, rfl, Below.refl _ _, hG⟩
                  simp [slotOf] at h33
                  simp [execOp, go_sem, h33, c0]
                · intro a W hG hR hO hp
                  have h3 := hO.slot 3 (by kernel_rfl)
                  refine wp_yields (v := .int .i64 k) ?_ ⟨_, rfl, rfl, Below.refl _ _, hG⟩
                  simp [slotOf] at h3
                  simp [execOp, go_sem, h3]
                · intro a W hG hR hO hp
                  have h34 : slotOf a 34 = .slice (some ⟨b1, o1, none⟩) s.cs.length s.c := hp.1
                  have h35 : slotOf a 35 = .int .i64 k := hp.2.1
                  refine wp_yields (v := .pointer (some ⟨b1, o1 + k, none⟩)) ?_ ⟨_, rfl, rfl, Below.refl _ _, hG⟩
                  simp [slotOf] at h34 h35
                  simp [execOp, go_sem, h34, h35, hki]
                · intro a W hG hR hO hp
                  have h36 : slotOf a 36 = .pointer (some ⟨b1, o1 + k, none⟩) := hp.1
                  have c0 := keep_cell cx hG
                  refine wp_yields (v := .slice x.a x.beds.length x.cp) ?_ ⟨_, rfl, rfl, Below.refl _ _, hG⟩
                  simp [slotOf] at h36
                  simp [execOp, go_sem, h36, c0]
                · intro a W hG hR hO hp
                  have h37 : slotOf a 37 = .slice x.a x.beds.length x.cp := hp.1
                  refine wp_yields (v := .int .i64 x.beds.length) ?_ ⟨_, rfl, rfl, Below.refl _ _, hG⟩
                  simp [slotOf] at h37
                  simp [go_sem, h37]
                · intro a W hG hR hO hp
                  have h1 := hO.slot 1 (by kernel_rfl)
                  refine wp_yields (v := .pointer (some ⟨w.heap.size, 0, none⟩)) ?_ ⟨_, rfl, rfl, Below.refl _ _, hG⟩
                  simp [slotOf] at h1
                  simp [execOp, go_sem, h1]
                · intro a W hG hR hO hp
                  have h39 : slotOf a 39 = .pointer (some ⟨w.heap.size, 0, none⟩) := hp.1
                  have c0 := keep_cell x0 hG
                  refine wp_yields (v := .slice (some ⟨b1, o1, none⟩) s.cs.length s.c) ?_ ⟨_, rfl, rfl, Below.refl _ _, hG⟩
                  simp [slotOf] at h39
                  simp [execOp, go_sem, h39, c0]
                · intro a W hG hR hO hp
                  have h40 : slotOf a 40 = .slice (some ⟨b1, o1, none⟩) s.cs.length s.c := hp.1
                  refine wp_yields (v := .pointer (some ⟨b1, o1, none⟩)) ?_ ⟨_, rfl, rfl, Below.refl _ _, hG⟩
                  simp [slotOf] at h40
                  simp [execOp, go_sem, h40, hcne]
                · intro a W hG hR hO hp
                  have h41 : slotOf a 41 = .pointer (some ⟨b1, o1, none⟩) := hp.1
                  have c0 := keep_cell cy hG
                  refine wp_yields (v := .slice y0.a n y0.cp) ?_ ⟨_, rfl, rfl, Below.refl _ _, hG⟩
                  simp [slotOf] at h41
                  simp [execOp, go_sem, h41, c0]
                · intro a W hG hR hO hp
                  have h42 : slotOf a 42 = .slice y0.a n y0.cp := hp.1
                  refine wp_yields (v := .int .i64 n) ?_ ⟨_, rfl, rfl, Below.refl _ _, hG⟩
                  simp [slotOf] at h42
                  simp [go_sem, h42]
                · intro a W hG hR hO hp
                  have h38 : slotOf a 38 = .int .i64 x.beds.length := hp.1
                  have h43 : slotOf a 43 = .int .i64 n := hp.2.1
                  refine wp_yields (v := .bool true) ?_ ⟨_, rfl, rfl, Below.refl _ _, hG⟩
                  simp [slotOf] at h38 h43
                  simp [execOp, go_sem, h38, h43, hne]
              · intro W hG hR
                rintro _ rfl _ rfl _ rfl _ rfl _ rfl _ rfl _ rfl _ rfl _ rfl _ rfl _ rfl _ rfl _ rfl _ rfl _ rfl _ rfl _ rfl _ rfl _ rfl _ rfl _ rfl
                change wpList _ _ _ _ _ _
                simp only [Act.put, List.setIfInBounds_toArray, List.set_cons_zero, List.set_cons_succ, List.drop_succ_cons, List.drop_zero]
                have HE2 := Lib.hid (newer_trans HE.out.1 hG)
                clear hG hR cy cx x0
                go_wp2_with fail
                go_ret
                exact ⟨rfl, HE2.out⟩
        · obtain rfl : k = s.cs.length := by omega
          have hrf := HT.out HE.out.2.2.2
          subst hrf
          go_wp2_with fail
          go_ret
          exact ⟨rfl, HE.out.1⟩
end

section
open Go.RowKit Go.Shelf Go.Deep
/-- A slope that is laid anew: what lies in memory behind so many columns. -/
structure CvJ (s : Sm) (i : Nat) (xs : List Cl) (A : Option Addr) (c : Nat) (w W : World) : Prop where
  nw : newer w W
  xb : Whole W w.heap.size 24 (smC s)
  rb : Whole W (w.heap.size + 1) 37 #[.slice none 0 0, vi 0]
  ob : Whole W (w.heap.size + 1 + 1) 37 #[.slice A xs.length c, vi s.least]
  own : W.ownsRow w.heap.size 105 1 (.slice A xs.length c) xs.length (xs.flatMap clL)
  col : ∀ x ∈ xs, W.ownsRow w.heap.size 104 8 (.slice x.a x.beds.length x.cp) x.beds.length (x.beds.flatMap bdL)
  eq : xs.map (fun x => x.beds) = (s.cs.take i).map fun x => x.beds
  ln : xs.length = i
section
variable {s : Sm} {i : Nat} {xs : List Cl} {A : Option Addr} {c : Nat} {w W W' : World}
theorem CvJ.next (h : CvJ s i xs A c w W) (hb : newer W W') : CvJ s i xs A c w W' :=
  ⟨newer_trans h.nw hb, h.xb.below hb h.xb.lt, h.rb.below hb h.rb.lt, h.ob.below hb h.ob.lt, own_below h.own hb, fun x hx => own_below (h.col x hx) hb, h.eq, h.ln⟩
/-- One column more. -/
theorem CvJ.add (h : CvJ s i xs A c w W) {x y : Cl} (hx : s.cs[i]? = some x) (hy : y.beds = x.beds) (hc : W.ownsRow w.heap.size 104 8 (.slice y.a y.beds.length y.cp) y.beds.length (y.beds.flatMap bdL))
    {g2 c2 : Nat} (hown : W'.ownsRow w.heap.size 105 1 (.slice (some ⟨g2, 0, none⟩) (xs.length + 1) c2) (xs.length + 1) (xs.flatMap clL ++ [clV y])) (hw : (A = some ⟨g2, 0, none⟩ ∧ c2 = c ∧ W.grownBy W' (some g2)) ∨ (W.heap.size ≤ g2 ∧ W.grownBy W' none)) :
    Whole W' (w.heap.size + 1 + 1) 37 #[.slice A xs.length c, vi s.least] ∧ CvJ s (i + 1) (xs ++ [y]) (some ⟨g2, 0, none⟩) c2 w (W'.setCell ⟨w.heap.size + 1 + 1, 0, none⟩ (.slice (some ⟨g2, 0, none⟩) (xs.length + 1) c2)) := by
  have hgr : W.grownBy W' (Value.slice A xs.length c).ownBlock := by
    rcases hw with ⟨h1, _, h3⟩ | ⟨_, h3⟩
    · rw [h1]; exact h3
    · exact h3.but _
  have k1 := h.xb.grown hgr (fun e => own_ne h.own h.xb (by decide) e.symm)
  have k2 := h.rb.grown hgr (fun e => own_ne h.own h.rb (by decide) e.symm)
  have k3 := h.ob.grown hgr (fun e => own_ne h.own h.ob (by decide) e.symm)
  have k4 : ∀ z : Cl, W.ownsRow w.heap.size 104 8 (.slice z.a z.beds.length z.cp) z.beds.length (z.beds.flatMap bdL) → W'.ownsRow w.heap.size 104 8 (.slice z.a z.beds.length z.cp) z.beds.length (z.beds.flatMap bdL) := fun z h2 => h2.kept hgr (own_apart h2 h.own (by decide))
  have hnw : newer w W' := by
    rcases hw with ⟨h1, _, h3⟩ | ⟨_, h3⟩
    · refine Below.trans h.nw (below_of_grown h3 (own_ge h.own g2 (by rw [h1]; rfl)) h.nw.size)
    · exact newer_trans h.nw (below_grown h3 (fun q e => by cases e) (Nat.le_refl _))
  refine ⟨k3, hnw.setCell (p := ⟨w.heap.size + 1 + 1, 0, none⟩) (by show w.heap.size ≤ w.heap.size + 1 + 1; omega) _, k1.far (p := ⟨w.heap.size + 1 + 1, 0, none⟩) (by show w.heap.size ≠ w.heap.size + 1 + 1; omega) _, k2.far (p := ⟨w.heap.size + 1 + 1, 0, none⟩) (by show w.heap.size + 1 ≠ w.heap.size + 1 + 1; omega) _, ?_, ?_, fun z hz => ?_, ?_, by rw [List.length_append, h.ln]; rfl⟩
  · rw [List.length_append]
    exact k3.set 0 _
  · rw [List.length_append, List.flatMap_append]
    exact own_set hown (own_ne hown k3 (by decide)) _
  · rcases List.mem_append.1 hz with hz | hz
    · have h3 := k4 z (h.col z hz)
      exact own_set h3 (own_ne h3 k3 (by decide)) _
    · obtain rfl : z = y := List.mem_singleton.1 hz
      have h3 := k4 z hc
      exact own_set h3 (own_ne h3 k3 (by decide)) _
  · rw [List.map_append, h.eq, List.take_add_one, hx, List.map_append]
    congr 1
    simp [hy]
/-- All columns; the result's box is written. -/
theorem CvJ.done (h : CvJ s s.cs.length xs A c w W) (u v : Value) : SmOk ⟨xs, A, c, s.least⟩ ((W.setCell ⟨w.heap.size + 1, 0, none⟩ u).setCell ⟨w.heap.size + 1, 1, none⟩ v) ∧ Sm.sd ⟨xs, A, c, s.least⟩ = s.sd ∧ newer w ((W.setCell ⟨w.heap.size + 1, 0, none⟩ u).setCell ⟨w.heap.size + 1, 1, none⟩ v) ∧ Whole ((W.setCell ⟨w.heap.size + 1, 0, none⟩ u).setCell ⟨w.heap.size + 1, 1, none⟩ v) (w.heap.size + 1) 37 #[u, v] := by
  refine ⟨⟨?_, fun x hx => ?_⟩, ?_, (h.nw.setCell (p := ⟨w.heap.size + 1, 0, none⟩) (Nat.le_succ _) u).setCell (p := ⟨w.heap.size + 1, 1, none⟩) (Nat.le_succ _) v, (h.rb.set 0 u).set 1 v⟩
  · exact row_of_own (by omega) (fun _ => rfl) (own_set (own_set h.own (own_ne h.own h.rb (by decide)) u) (own_ne h.own h.rb (by decide)) v)
  · have h2 := h.col x hx
    exact row_of_own (by omega) (fun _ => rfl) (own_set (own_set h2 (own_ne h2 h.rb (by decide)) u) (own_ne h2 h.rb (by decide)) v)
  · have e := h.eq
    rw [List.take_length] at e
    show (⟨xs.map (fun x => x.beds), s.least⟩ : Sd) = ⟨s.cs.map fun x => x.beds, s.least⟩
    rw [e]
end
set_option maxRecDepth 100000 in
set_option maxHeartbeats 2000000 in
theorem lawSlope (s : Sm) (w : World) (hok : SmOk s w) (few : SmFew s) : Calls Try.prog 19 #[smV s] w fun e w' => ∃ s2 : Sm, e = .returned (smV s2) ∧ s2.sd = s.sd ∧ SmOk s2 w' ∧ newer w w' := by
  have H0 : Hid (CvJ s 0 [] none 0 w (((w.alloc (.cells (smC s) 24)).alloc (.cells #[.slice none 0 0, vi 0] 37)).alloc (.cells #[.slice none 0 0, vi s.least] 37))) := Lib.hid (by
    have e1 := newer_allocH w (.cells (smC s) 24)
    have e2 := newer_allocH (w.alloc (.cells (smC s) 24)) (.cells #[.slice none 0 0, vi 0] 37)
    have e3 := newer_allocH ((w.alloc (.cells (smC s) 24)).alloc (.cells #[.slice none 0 0, vi 0] 37)) (.cells #[.slice none 0 0, vi s.least] 37)
    have a1 := Whole.made w 24 (smC s)
    have a2 := Whole.made (w.alloc (.cells (smC s) 24)) 37 #[.slice none 0 0, vi 0]
    have a3 := Whole.made ((w.alloc (.cells (smC s) 24)).alloc (.cells #[.slice none 0 0, vi 0] 37)) 37 #[.slice none 0 0, vi s.least]
    rw [World.size_alloc] at a2
    rw [World.size_alloc, World.size_alloc] at a3
    exact ⟨newer_trans (newer_trans e1 e2) e3, (a1.below e2 a1.lt).below e3 (by simp; omega), a2.below e3 a2.lt, a3, ⟨rfl, .inl ⟨rfl, rfl⟩⟩, fun x hx => by simp at hx, rfl, rfl⟩)
  have HOK := Lib.hid hok
  have HFW := Lib.hid few
  have hcl := few.cs
  obtain ⟨i0, hi0, hz0, hz1, hz2⟩ := info_parts info_col
  have HI := Lib.hid (And.intro hi0 (And.intro hz0 (And.intro hz1 hz2)))
  obtain ⟨i8, hj0, hy0, hy1, hy2⟩ := info_parts info_bd
  have HI8 := Lib.hid (And.intro hj0 (And.intro hy0 (And.intro hy1 hy2)))
  have x1 := H0.out.xb.at 1 (v := vi s.least) rfl
  clear hok few hi0 hz0 hz1 hz2 hj0 hy0 hy1 hy2
  go_enter Try.func19, Try.ntmps19
  go_wp2_with fail
  clear x1
  go_loopw [4] (fun s4 wr => ∃ (i : Nat) (xs : List Cl) (A : Option Addr) (c : Nat), i ≤ s.cs.length ∧ s4 = vi i ∧ CvJ s i xs A c w wr) (fun s4 _ => s.cs.length - (intOf s4).toNat)
  case atStart => exact ⟨0, [], none, 0, Nat.zero_le _, rfl, H0.out⟩
  case round =>
    obtain ⟨i, xs, A, c, hi, rfl, hj⟩ := hrel
    clear H0
    have HJ := Lib.hid hj
    have x0 := hj.xb.at 0 (v := .slice s.a s.cs.length s.c) rfl
    clear hj
    obtain ⟨wo, rfl⟩ : ∃ wo : World, wo = wr := ⟨_, rfl⟩
    by_cases hlt : i < s.cs.length
    · obtain ⟨x, hx⟩ := get_of_lt hlt
      have hxn := HFW.out.bd x (List.mem_of_getElem? hx)
      have HX := Lib.hid (And.intro hx (List.mem_of_getElem? hx))
      obtain ⟨b1, o1, ea, _, cx⟩ := rowC (HOK.out.next HJ.out.nw).cs hx
      have HEA := Lib.hid (And.intro ea cx)
      clear hx cx ea
      go_wp2_with fail
      go_loopw [5, 6] (fun s5 s6 wr => ∃ (j : Nat) (A2 : Option Addr) (c2 : Nat), j ≤ x.beds.length ∧ s6 = vi j ∧ s5 = .slice A2 j c2 ∧ newer wo wr ∧ wr.ownsRow wo.heap.size 104 8 (.slice A2 j c2) j ((x.beds.take j).flatMap bdL)) (fun _ s6 _ => x.beds.length - (intOf s6).toNat)
      case atStart => exact ⟨0, none, 0, Nat.zero_le _, rfl, rfl, Below.refl _ _, ⟨rfl, .inl ⟨rfl, rfl⟩⟩⟩
      case round =>
        obtain ⟨j, A2, c2, hj, rfl, rfl, q1, q2⟩ := hrel
        clear x0
        have hj2 := HJ.out.next q1
        have HJ2 := Lib.hid hj2
        have x0 := hj2.xb.at 0 (v := .slice s.a s.cs.length s.c) rfl
        rw [HEA.out.1] at x0
        have cx := keep_cell HEA.out.2 q1
        have hii : (i : Int) < s.cs.length := by omega
        have HQ := Lib.hid (And.intro q1 q2)
        clear hj2 q1 q2
        by_cases hlt2 : j < x.beds.length
        · obtain ⟨b, hb⟩ := get_of_lt hlt2
          obtain ⟨b4, o4, e4, _, d0, d1, d2, d3, d4, d5, d6, d7⟩ := row8 ((HOK.out.next HJ2.out.nw).bd x HX.out.2) hb
          rw [e4] at cx
          have hji : (j : Int) < x.beds.length := by omega
          have HB := Lib.hid hb
          have e5 := newer_allocH wr (.cells (bdC b) 69)
          have HE4 := Lib.hid (And.intro (newer_trans HQ.out.1 e5) (And.intro (own_below HQ.out.2 e5) (Whole.made wr 69 (bdC b))))
          clear hb e4 e5
          go_upto_region 10 with fail
          refine genQ (fun X => newer wo X ∧ X.ownsRow wo.heap.size 104 8 (.slice A2 j c2) j ((x.beds.take j).flatMap bdL) ∧ Whole X wr.heap.size 69 (bdC b)) HE4.out ?_
          clear HE4 d0 d1 d2 d3 d4 d5 d6 d7 cx x0
          obtain ⟨bb, hbb⟩ : ∃ bb, bb = wr.heap.size := ⟨_, rfl⟩
          rw [← hbb]
          rintro w5 ⟨p1, p2, p4⟩
          have z0 := p4.at 0 (v := vi b.drive) rfl
          have z1 := p4.at 1 (v := vi b.normal) rfl
          have z2 := p4.at 2 (v := vi b.fr.lo) rfl
          have z3 := p4.at 3 (v := vi b.fr.hi) rfl
          have z4 := p4.at 4 (v := vi b.co.lo) rfl
          have z5 := p4.at 5 (v := vi b.co.hi) rfl
          have z6 := p4.at 6 (v := vi b.wa.lo) rfl
          have z7 := p4.at 7 (v := vi b.wa.hi) rfl
          have HE5 := Lib.hid (And.intro p1 p2)
          clear p1 p2 p4 hbb
          refine wp_words (by kernel_rfl) (region_told 16 (by kernel_rfl) (by kernel_rfl) (fun W => Below w5.heap.size w5 W) newer (pickD [vIs (.slice A2 j c2), vIs (.pointer (some ⟨bb, 0, none⟩)), vIs (vi b.drive), vIs (.pointer (some ⟨bb, 1, none⟩)), vIs (vi b.normal), vIs (.pointer (some ⟨bb, 2, none⟩)), vIs (rgV b.fr), vIs (rgV b.fr), vIs (.pointer (some ⟨bb, 4, none⟩)), vIs (rgV b.co), vIs (rgV b.co), vIs (.pointer (some ⟨bb, 6, none⟩)), vIs (rgV b.wa), vIs (rgV b.wa), vIs (bdV b), vOne w5.heap.size 104 (bdC b)]) (fun h k => newer_trans h k) (pickD_stable _ ⟨vIs_st, vIs_st, vIs_st, vIs_st, vIs_st, vIs_st, vIs_st, vIs_st, vIs_st, vIs_st, vIs_st, vIs_st, vIs_st, vIs_st, vIs_st, vOne_st, trivial⟩) (Below.refl _ w5).drew (Below.refl _ _) ?_ ?_)
          · refine ⟨?_, ?_, ?_, ?_, ?_, ?_, ?_, ?_, ?_, ?_, ?_, ?_, ?_, ?_, ?_, ?_, trivial⟩
            · intro a W hG hR hO hp
              have h5 := hO.slot 5 (by kernel_rfl)
              refine wp_yields (v := .slice A2 j c2) ?_ ⟨_, rfl, rfl, Below.refl _ _, hG⟩
              simp [slotOf] at h5
              simp [execOp, go_sem, h5]
            · intro a W hG hR hO hp
              have h7 := hO.slot 7 (by kernel_rfl)
              refine wp_yields (v := .pointer (some ⟨bb, 0, none⟩)) ?_ ⟨_, rfl, rfl, Below.refl _ _, hG⟩
              simp [slotOf] at h7
              simp [execOp, go_sem, h7]
            · intro a W hG hR hO hp
              have h37 : slotOf a 37 = .pointer (some ⟨bb, 0, none⟩) := hp.1
              have c0 := keep_cell z0 hG
              refine wp_yields (v := vi b.drive) ?_ ⟨_, rfl, rfl, Below.refl _ _, hG⟩
              simp [slotOf] at h37
              simp [execOp, go_sem, h37, c0]
            · intro a W hG hR hO hp
              have h7 := hO.slot 7 (by kernel_rfl)
              refine wp_yields (v := .pointer (some ⟨bb, 1, none⟩)) ?_ ⟨_, rfl, rfl, Below.refl _ _, hG⟩
              simp [slotOf] at h7
              simp [execOp, go_sem, h7]
            · intro a W hG hR hO hp
              have h39 : slotOf a 39 = .pointer (some ⟨bb, 1, none⟩) := hp.1
              have c0 := keep_cell z1 hG
              refine wp_yields (v := vi b.normal) ?_ ⟨_, rfl, rfl, Below.refl _ _, hG⟩
              simp [slotOf] at h39
              simp [execOp, go_sem, h39, c0]
            · intro a W hG hR hO hp
              have h7 := hO.slot 7 (by kernel_rfl)
              refine wp_yields (v := .pointer (some ⟨bb, 2, none⟩)) ?_ ⟨_, rfl, rfl, Below.refl _ _, hG⟩
              simp [slotOf] at h7
              simp [execOp, go_sem, h7]
            · intro a W hG hR hO hp
              have h41 : slotOf a 41 = .pointer (some ⟨bb, 2, none⟩) := hp.1
              have c0 := keep_cell z2 hG
              have c1 := keep_cell z3 hG
              refine wp_yields (v := rgV b.fr) ?_ ⟨_, rfl, rfl, Below.refl _ _, hG⟩
              simp [slotOf] at h41
              simp [execOp, go_sem, h41, c0, c1]
            · intro a W hG hR hO hp
              have h42 : slotOf a 42 = rgV b.fr := hp.1
              refine wp_enters (f := 23) (args := #[rgV b.fr]) ?_ ((to_any b.fr W).mono ?_)
              · simp [slotOf] at h42
                simp [go_sem, h42]
              · rintro e w' ⟨rfl, hb⟩
                exact ⟨_, rfl, _, rfl, rfl, hb, below_next hG hb⟩
            · intro a W hG hR hO hp
              have h7 := hO.slot 7 (by kernel_rfl)
              refine wp_yields (v := .pointer (some ⟨bb, 4, none⟩)) ?_ ⟨_, rfl, rfl, Below.refl _ _, hG⟩
              simp [slotOf] at h7
              simp [execOp, go_sem, h7]
            · intro a W hG hR hO hp
              have h44 : slotOf a 44 = .pointer (some ⟨bb, 4, none⟩) := hp.1
              have c0 := keep_cell z4 hG
              have c1 := keep_cell z5 hG
              refine wp_yields (v := rgV b.co) ?_ ⟨_, rfl, rfl, Below.refl _ _, hG⟩
              simp [slotOf] at h44
              simp [execOp, go_sem, h44, c0, c1]
            · intro a W hG hR hO hp
              have h45 : slotOf a 45 = rgV b.co := hp.1
              refine wp_enters (f := 23) (args := #[rgV b.co]) ?_ ((to_any b.co W).mono ?_)
              · simp [slotOf] at h45
                simp [go_sem, h45]
              · rintro e w' ⟨rfl, hb⟩
                exact ⟨_, rfl, _, rfl, rfl, hb, below_next hG hb⟩
            · intro a W hG hR hO hp
              have h7 := hO.slot 7 (by kernel_rfl)
              refine wp_yields (v := .pointer (some ⟨bb, 6, none⟩)) ?_ ⟨_, rfl, rfl, Below.refl _ _, hG⟩
              simp [slotOf] at h7
              simp [execOp, go_sem, h7]
            · intro a W hG hR hO hp
              have h47 : slotOf a 47 = .pointer (some ⟨bb, 6, none⟩) := hp.1
              have c0 := keep_cell z6 hG
              have c1 := keep_cell z7 hG
              refine wp_yields (v := rgV b.wa) ?_ ⟨_, rfl, rfl, Below.refl _ _, hG⟩
              simp [slotOf] at h47
              simp [execOp, go_sem, h47, c0, c1]
            · intro a W hG hR hO hp
              have h48 : slotOf a 48 = rgV b.wa := hp.1
              refine wp_enters (f := 23) (args := #[rgV b.wa]) ?_ ((to_any b.wa W).mono ?_)
              · simp [slotOf] at h48
                simp [go_sem, h48]
              · rintro e w' ⟨rfl, hb⟩
                exact ⟨_, rfl, _, rfl, rfl, hb, below_next hG hb⟩
            · intro a W hG hR hO hp
              have h38 : slotOf a 38 = vi b.drive := hp.1
              have h40 : slotOf a 40 = vi b.normal := hp.2.1
              have h43 : slotOf a 43 = rgV b.fr := hp.2.2.1
              have h46 : slotOf a 46 = rgV b.co := hp.2.2.2.1
              have h49 : slotOf a 49 = rgV b.wa := hp.2.2.2.2.1
              refine wp_yields (v := bdV b) ?_ ⟨_, rfl, rfl, Below.refl _ _, hG⟩
              simp [slotOf] at h38 h40 h43 h46 h49
              simp [execOp, go_sem, h38, h40, h43, h46, h49]
            · intro a W hG hR hO hp
              have h50 : slotOf a 50 = bdV b := hp.1
              refine wp_makes (v := .slice (some ⟨W.heap.size, 0, none⟩) 1 1) (W' := W.alloc (.cells (bdC b) 104)) ?_ ⟨_, rfl, ⟨_, rfl, hG.size, Whole.made _ _ _⟩, newer_allocH _ _, below_next hG (newer_allocH _ _)⟩
              simp [slotOf] at h50
              simp [execOp, go_sem, h50]
          · intro wz hG hR
            rintro _ rfl _ rfl _ rfl _ rfl _ rfl _ rfl _ rfl _ rfl _ rfl _ rfl _ rfl _ rfl _ rfl _ rfl _ rfl _ ⟨nb, rfl, hnb, hW⟩
            change wpList _ _ _ _ _ _
            simp only [Act.put, List.setIfInBounds_toArray, List.set_cons_zero, List.set_cons_succ, List.drop_succ_cons, List.drop_zero]
            have HO := Lib.hid (own_below HE5.out.2 hG)
            have HN := Lib.hid (newer_trans HE5.out.1 hG)
            have HWN := Lib.hid (World.news_of_block hW)
            clear hG hR hW z0 z1 z2 z3 z4 z5 z6 z7
            go_wp2_with (at_builtin; go_loud ((refine wpList_append_lies _ rfl (.tmp 36) (.tmp 51) 105 rfl wo.heap.size 104 i8 (.agg #[vi 0, vi 0, vi 0, vi 0, vi 0, vi 0, vi 0, vi 0]) 8 64 Try.underlying105 HI8.out.1 HI8.out.2.1 HI8.out.2.2.1 HI8.out.2.2.2 rfl (by omega) _ j _ rfl HO.out ⟨nb, 0, none⟩ 1 1 (bdL b) rfl rfl HWN.out (by simp [Value.oneCell']) (by omega) (by unfold maxLen; omega) (by omega) HN.out.size wz.heap.size rfl ?_); intro gg cp2 w2 hown2 hgrow2 hat2 hlt3; rw [← take_flat bdL _ j b HB.out] at hown2; have HE := Lib.hid (And.intro hown2 (And.intro hgrow2 (own_ge HO.out))); clear hown2 hgrow2 hat2 hlt3))
            refine ⟨⟨j + 1, some ⟨gg, 0, none⟩, cp2, by omega, rfl, rfl, ?_, HE.out.1⟩, ?_⟩
            · exact below_grown (grown_trans' (grown_of_newer HN.out _) HE.out.2.1) HE.out.2.2 (Nat.le_refl _)
            · simp [intOf]
              omega
        · obtain rfl : j = x.beds.length := by omega
          have hown := HQ.out.2
          rw [List.take_of_length_le (Nat.le_refl _)] at hown
          obtain ⟨y, hy⟩ : ∃ y : Cl, y = ⟨x.beds, A2, c2⟩ := ⟨_, rfl⟩
          have hn1 := newer_allocH wr (.cells #[.slice A2 x.beds.length c2] 105)
          have hcy : clV y = .slice A2 x.beds.length c2 := by rw [hy]
          have HADD := Lib.hid (fun g2 c3 w5 => (HJ2.out.next hn1).add (W' := w5) HX.out.1 (y := y) (by rw [hy]) (by rw [hy]; exact own_more (own_below hown hn1) HJ.out.nw.size) (g2 := g2) (c2 := c3))
          have HJ3 := Lib.hid (HJ2.out.next hn1)
          have HXS := Lib.hid (show xs.length ≤ 1000 by have := HJ.out.ln; omega)
          have HCW : Hid ((wr.alloc (.cells #[.slice A2 x.beds.length c2] 105)).cell? ⟨wr.heap.size, 0, none⟩ = some (.slice A2 x.beds.length c2)) := Lib.hid ((Whole.made wr 105 #[.slice A2 x.beds.length c2]).at 0 rfl)
          rw [hcy] at HADD
          have o0 := HJ2.out.ob.at 0 (v := .slice A xs.length c) rfl
          clear hown hn1 hcy hy
          go_wp2_with (at_builtin; go_loud ((refine wpList_plain rfl fun _ hK => wp_append_one (.tmp 54) (.tmp 56) 35 rfl w.heap.size 105 i0 (.slice none 0 0) 24 Try.underlying35 HI.out.1 HI.out.2.1 HI.out.2.2.1 HI.out.2.2.2 rfl A xs.length c (xs.flatMap clL) rfl HJ3.out.own ⟨wr.heap.size, 0, none⟩ 1 (.slice A2 x.beds.length c2) rfl HCW.out rfl (by have := HXS.out; unfold maxLen; omega) (by have := HXS.out; omega) HJ3.out.nw.size fun g2 c3 w5 hown hwh => hK _ _ ?_); have HE := Lib.hid (HADD.out g2 c3 w5 hown hwh); have p0 := HE.out.1.at 0 (v := .slice A xs.length c) rfl; have pf0 := HE.out.1.free 0; clear hown hwh))
          refine ⟨⟨i + 1, xs ++ [y], some ⟨g2, 0, none⟩, c3, by omega, rfl, HE.out.2⟩, ?_⟩
          simp [intOf]
          omega
    · obtain rfl : i = s.cs.length := by omega
      have o0 := HJ.out.ob.at 0 (v := .slice A xs.length c) rfl
      have o1 := HJ.out.ob.at 1 (v := vi s.least) rfl
      have r0 := HJ.out.rb.at 0 (v := .slice none 0 0) rfl
      have r1 := HJ.out.rb.at 1 (v := vi 0) rfl
      have f0 := HJ.out.rb.free 0
      have f1 := HJ.out.rb.free 1
      have HF := Lib.hid (HJ.out.done (.slice A xs.length c) (vi s.least))
      have z0 := HF.out.2.2.2.at 0 (v := .slice A xs.length c) rfl
      have z1 := HF.out.2.2.2.at 1 (v := vi s.least) rfl
      go_wp2_with fail
      exact bodyPost_ret (v := .agg #[.slice A xs.length c, vi s.least]) (by simp [results, Try.results19, go_sem, z0, z1]) rfl ⟨⟨xs, A, c, s.least⟩, rfl, HF.out.2.1, HF.out.1, HF.out.2.2.1⟩
end

section
open Go.RowKit Go.Shelf Go.Deep
/-- A list in memory, from a block on. -/
def vLis (B : Nat) (l : List Int) (v : Value) (W : World) : Prop := ∃ A c, v = .slice A l.length c ∧ Row intL 1 W W.heap.size A l ∧ ∀ a, A = some a → B ≤ a.block
theorem vLis_st {B : Nat} {l : List Int} : ∀ v W W', vLis B l v W → newer W W' → vLis B l v W' := fun _ _ _ ⟨A, c, h1, h2, h3⟩ hb => ⟨A, c, h1, (h2.below hb).more hb.size, h3⟩
/-- A surface in memory, from a block on. -/
def vSur (B : Nat) (frm : Int) (l : List Int) (v : Value) (W : World) : Prop := ∃ A c, v = .agg #[vi frm, .slice A l.length c] ∧ Row intL 1 W W.heap.size A l ∧ ∀ a, A = some a → B ≤ a.block
theorem vSur_st {B : Nat} {frm : Int} {l : List Int} : ∀ v W W', vSur B frm l v W → newer W W' → vSur B frm l v W' := fun _ _ _ ⟨A, c, h1, h2, h3⟩ hb => ⟨A, c, h1, (h2.below hb).more hb.size, h3⟩
theorem row_far {W : World} {B : Nat} {A : Option Addr} {l : List Int} {b i : Nat} (h : Row intL 1 W B A l) (hne : ∀ a, A = some a → l ≠ [] → a.block ≠ b) (u : Value) : Row intL 1 (W.setCell ⟨b, i, none⟩ u) B A l := by
  intro hl
  obtain ⟨g, off, e, hb, hc⟩ := h hl
  refine ⟨g, off, e, hb, fun k x hk j v hj => ?_⟩
  have h1 := hne _ e hl
  have e2 : (W.setCell ⟨b, i, none⟩ u).heap[g]? = W.heap[g]? := Below.heap_setCell W ⟨b, i, none⟩ u g h1
  exact (cell_of_same e2 _).trans (hc k x hk j v hj)
set_option maxRecDepth 100000 in
set_option maxHeartbeats 2000000 in
theorem lawSurface (u : Su) (w : World) (hu : SuOk u w) (hul : u.beds.length ≤ 1000) : Calls Try.prog 20 #[suV u] w fun e w' => ∃ u2 : Su, e = .returned (suV u2) ∧ u2.frm = u.frm ∧ u2.beds = u.beds ∧ SuOk u2 w' ∧ newer w w' := by
  have e1 := newer_allocH w (.cells (suC u) 27)
  have e2 := newer_allocH (w.alloc (.cells (suC u) 27)) (.cells #[vi 0, .slice none 0 0] 39)
  have a1 := Whole.made w 27 (suC u)
  have a2 := Whole.made (w.alloc (.cells (suC u) 27)) 39 #[vi 0, .slice none 0 0]
  rw [World.size_alloc] at a2
  have H0 := Lib.hid (And.intro (newer_trans e1 e2) (And.intro (a1.below e2 a1.lt) a2))
  have HUW := Lib.hid (hu.next (newer_trans e1 e2))
  clear e1 e2 a1 a2 hu
  go_enter Try.func20, Try.ntmps20
  go_upto_region 1 with fail
  refine genQ (fun X => newer w X ∧ Whole X w.heap.size 27 (suC u) ∧ Whole X (w.heap.size + 1) 39 #[vi 0, .slice none 0 0] ∧ SuOk u X) ⟨H0.out.1, H0.out.2.1, H0.out.2.2, HUW.out⟩ ?_
  clear H0 HUW
  rintro w2 ⟨p1, p2, p3, p4⟩
  have u0 := p2.at 0 (v := vi u.frm) rfl
  have u1 := p2.at 1 (v := .slice u.a u.beds.length u.c) rfl
  have HU := Lib.hid (show Row intL 1 w2 w2.heap.size u.a u.beds from p4)
  have H2 := Lib.hid (And.intro p1 p3)
  clear p1 p2 p3 p4
  refine wp_words (by kernel_rfl) (region_told 6 (by kernel_rfl) (by kernel_rfl) (fun W => Below w2.heap.size w2 W) newer (pickD [vIs (.pointer (some ⟨w.heap.size, 0, none⟩)), vIs (vi u.frm), vIs (.pointer (some ⟨w.heap.size, 1, none⟩)), vIs (.slice u.a u.beds.length u.c), vLis w2.heap.size u.beds, vSur w2.heap.size u.frm u.beds]) (fun h k => newer_trans h k) (pickD_stable _ ⟨vIs_st, vIs_st, vIs_st, vIs_st, vLis_st, vSur_st, trivial⟩) (Below.refl _ w2).drew (Below.refl _ _) ?_ ?_)
  · refine ⟨?_, ?_, ?_, ?_, ?_, ?_, trivial⟩
    · intro a W hG hR hO hp
      have h1 := hO.slot 1 (by kernel_rfl)
      refine wp_yields (v := .pointer (some ⟨w.heap.size, 0, none⟩)) ?_ ⟨_, rfl, rfl, Below.refl _ _, hG⟩
      simp [slotOf] at h1
      simp [execOp, go_sem, h1]
    · intro a W hG hR hO hp
      have h3 : slotOf a 3 = .pointer (some ⟨w.heap.size, 0, none⟩) := hp.1
      have c0 := keep_cell u0 hG
      refine wp_yields (v := vi u.frm) ?_ ⟨_, rfl, rfl, Below.refl _ _, hG⟩
      simp [slotOf] at h3
      simp [execOp, go_sem, h3, c0]
    · intro a W hG hR hO hp
      have h1 := hO.slot 1 (by kernel_rfl)
      refine wp_yields (v := .pointer (some ⟨w.heap.size, 1, none⟩)) ?_ ⟨_, rfl, rfl, Below.refl _ _, hG⟩
      simp [slotOf] at h1
      simp [execOp, go_sem, h1]
    · intro a W hG hR hO hp
      have h5 : slotOf a 5 = .pointer (some ⟨w.heap.size, 1, none⟩) := hp.1
      have c0 := keep_cell u1 hG
      refine wp_yields (v := .slice u.a u.beds.length u.c) ?_ ⟨_, rfl, rfl, Below.refl _ _, hG⟩
      simp [slotOf] at h5
      simp [execOp, go_sem, h5, c0]
    · intro a W hG hR hO hp
      have h6 : slotOf a 6 = .slice u.a u.beds.length u.c := hp.1
      refine wp_enters (f := 29) (args := #[.slice u.a u.beds.length u.c]) ?_ ((lawList u.beds u.a u.c W hul ((HU.out.below hG).more hG.size)).mono ?_)
      · simp [slotOf] at h6
        simp [go_sem, h6]
      · rintro e w' ⟨A, c, rfl, _, hr, hb, hge⟩
        exact ⟨_, rfl, _, rfl, ⟨A, c, rfl, hr, fun a e => Nat.le_trans hG.size (hge a e)⟩, hb, below_next hG hb⟩
    · intro a W hG hR hO hp
      have h4 : slotOf a 4 = vi u.frm := hp.1
      have h7 := hp.2.1
      obtain ⟨A, c, h7, hrow, hge⟩ := h7
      refine wp_yields (v := .agg #[vi u.frm, .slice A u.beds.length c]) ?_ ⟨_, rfl, ⟨A, c, rfl, hrow, hge⟩, Below.refl _ _, hG⟩
      simp [slotOf] at h4 h7
      simp [execOp, go_sem, h4, h7]
  · intro wz hG hR
    rintro _ rfl _ rfl _ rfl _ rfl _ - _ ⟨A, c, rfl, hrow, hge⟩
    change wpList _ _ _ _ _ _
    simp only [Act.put, List.setIfInBounds_toArray, List.set_cons_zero, List.set_cons_succ, List.drop_succ_cons, List.drop_zero]
    have hr := H2.out.2.below hG H2.out.2.lt
    have r0 := hr.at 0 (v := vi 0) rfl
    have r1 := hr.at 1 (v := .slice none 0 0) rfl
    have f0 := hr.free 0
    have f1 := hr.free 1
    have hset := (hr.set 0 (vi u.frm)).set 1 (.slice A u.beds.length c)
    have z0 := hset.at 0 (v := vi u.frm) rfl
    have z1 := hset.at 1 (v := .slice A u.beds.length c) rfl
    have HF : Hid (Row intL 1 ((wz.setCell ⟨w.heap.size + 1, 0, none⟩ (vi u.frm)).setCell ⟨w.heap.size + 1, 1, none⟩ (.slice A u.beds.length c)) ((wz.setCell ⟨w.heap.size + 1, 0, none⟩ (vi u.frm)).setCell ⟨w.heap.size + 1, 1, none⟩ (.slice A u.beds.length c)).heap.size A u.beds ∧ newer w ((wz.setCell ⟨w.heap.size + 1, 0, none⟩ (vi u.frm)).setCell ⟨w.heap.size + 1, 1, none⟩ (.slice A u.beds.length c))) := Lib.hid (by
      have hl := H2.out.2.lt
      have hne : ∀ a, A = some a → u.beds ≠ [] → a.block ≠ w.heap.size + 1 := fun a e _ => by have := hge a e; omega
      refine ⟨?_, ((newer_trans H2.out.1 hG).setCell (p := ⟨w.heap.size + 1, 0, none⟩) (Nat.le_succ _) _).setCell (p := ⟨w.heap.size + 1, 1, none⟩) (Nat.le_succ _) _⟩
      exact (row_far (row_far hrow hne _) hne _).more (by simp))
    clear hr hset hrow hge hG hR u0 u1
    go_wp2_with fail
    exact bodyPost_ret (v := .agg #[vi u.frm, .slice A u.beds.length c]) (by simp [results, Try.results20, go_sem, z0, z1]) rfl ⟨⟨u.frm, u.beds, A, c⟩, rfl, rfl, rfl, HF.out.1, HF.out.2⟩
end

section
open Go.ChangeShapes Go.WideShapes Go.ChangeAt Go.RowKit Go.Deep
theorem Try.own : ownKnob Try.prog.godebug = none := by kernel_rfl
theorem Try.laidOut : laidOutB Try.prog = true := by kernel_rfl
theorem Try.cells3 : Try.prog.cellsOf 3 = 1 := by kernel_rfl
theorem Try.cells22 : Try.prog.cellsOf 22 = 1 := by kernel_rfl
theorem Try.cells24 : Try.prog.cellsOf 24 = 2 := by kernel_rfl
theorem Try.cells25 : Try.prog.cellsOf 25 = 1 := by kernel_rfl
theorem Try.cells42 : Try.prog.cellsOf 42 = 2 := by kernel_rfl
theorem Try.cells66 : Try.prog.cellsOf 66 = 1 := by kernel_rfl
theorem Try.cells69 : Try.prog.cellsOf 69 = 8 := by kernel_rfl
theorem len8 {α : Type} {l : List α} (h : l.length = 8) : ∃ a b c d e f g i, l = [a, b, c, d, e, f, g, i] := by
  match l, h with
  | [a, b, c, d, e, f, g, i], _ => exact ⟨a, b, c, d, e, f, g, i, rfl⟩
theorem len5 {α : Type} {l : List α} (h : l.length = 5) : ∃ a b c d e, l = [a, b, c, d, e] := by
  match l, h with
  | [a, b, c, d, e], _ => exact ⟨a, b, c, d, e, rfl⟩
section
variable {H : Type} {enc : TypeId × Value → H} {w : World} {base : Nat} {spare : Nat → Bool} {held : Bool} {fuel : Nat} {cs : List Value} {x : DataW H × List MemPlace}
/-- A slice of elements whose cells are known by their type reads as a list. -/
theorem open_rowP {α : Type} {ec : α → List Value} {Pr : α → Prop} {t e s : Nat} (ht : Try.prog.underlying t = some (.slice e)) (hC : Try.prog.cellsOf e = s) (he : ∀ y, (ec y).length = s) (hs : 0 < s)
    (hel : ∀ {fuel : Nat} {cs : List Value} {x : DataW H × List MemPlace}, DataW.trod enc Try.prog w base spare held fuel e cs = some x → ∃ y, cs = ec y ∧ Pr y)
    (h : DataW.trod enc Try.prog w base spare held fuel t cs = some x) : ∃ (A : Option Addr) (l : List α) (cp : Nat), cs = [.slice A l.length cp] ∧ l.length ≤ maxLen ∧ Row ec s w w.heap.size A l ∧ ∀ y ∈ l, Pr y := by
  rcases open_slice ht h with ⟨rfl, _⟩ | ⟨a, len, cap, m, n, D, Pl, rfl, hb, hl, hm, hmm, _, hi⟩
  · exact ⟨none, [], 0, rfl, Nat.zero_le _, Row.nil _, fun y hy => by simp at hy⟩
  · have hlm : len ≤ m := by rw [hmm]; split <;> omega
    obtain ⟨b, off, sp⟩ := a
    rcases Nat.eq_zero_or_pos len with rfl | hpos
    · exact ⟨_, [], cap, rfl, Nat.zero_le _, Row.nil _, fun y hy => by simp at hy⟩
    · have hex : ∀ i, ∃ y : α, Pr y ∧ (i < len → w.cells? base ((⟨b, off, sp⟩ : Addr).add (i * s)) s = some (ec y)) := by
        intro i
        by_cases hi2 : i < len
        · obtain ⟨cs', hc, ht'⟩ := hi i (by omega)
          obtain ⟨y, rfl, hpy⟩ := hel ht'
          rw [hC] at hc
          exact ⟨y, hpy, fun _ => hc⟩
        · obtain ⟨cs', hc, ht'⟩ := hi 0 (by omega)
          obtain ⟨y, rfl, hpy⟩ := hel ht'
          exact ⟨y, hpy, fun h => absurd h hi2⟩
      obtain ⟨f, hff⟩ := Classical.axiomOfChoice hex
      have hf := fun i => (hff i).2
      have hcell : ∀ i, i < len → ∀ j v, (ec (f i))[j]? = some v → w.cell? (((⟨b, off, sp⟩ : Addr).add (i * s)).add j) = some v := by
        intro i hi2 j v hv
        obtain ⟨_, _, h3⟩ := World.cells?_some (hf i hi2)
        have hj : j < s := by rw [← he (f i)]; exact (List.getElem?_eq_some_iff.1 hv).1
        rw [h3 j hj, hv]
      have hsp : sp = none := by
        obtain ⟨u, hv⟩ := get_of_lt (l := ec (f 0)) (k := 0) (by rw [he]; exact hs)
        have := hcell 0 hpos 0 _ hv
        simp only [Nat.zero_mul, Addr.add, if_true] at this
        unfold World.cell? at this
        cases sp with
        | none => rfl
        | some q =>
          exfalso
          dsimp only at this
          split at this
          · simp at this
          · cases this
      subst hsp
      refine ⟨_, (List.range len).map f, cap, by rw [List.length_map, List.length_range], by rw [List.length_map, List.length_range]; exact Nat.le_trans hl hm, fun _ => ⟨b, off, rfl, ?_, fun k x hk j v hv => ?_⟩, fun y hy => ?_⟩
      · obtain ⟨u, hv⟩ := get_of_lt (l := ec (f 0)) (k := 0) (by rw [he]; exact hs)
        have := World.block_lt_of_cell? w _ (hcell 0 hpos 0 _ hv)
        simpa [Addr.add] using this
      · rw [List.getElem?_map] at hk
        obtain ⟨i, hi3, rfl⟩ := Option.map_eq_some_iff.1 hk
        obtain ⟨hkl, hki⟩ := List.getElem?_eq_some_iff.1 hi3
        rw [List.getElem_range] at hki
        subst hki
        have := hcell k (by simpa using hkl) j v hv
        rw [Go.Deep.add_add, add_row] at this
        rw [Nat.add_assoc]
        exact this
      · obtain ⟨i, _, rfl⟩ := List.mem_map.1 hy
        exact (hff i).1
theorem int_cells (h : DataW.trod enc Try.prog w base spare held fuel 3 cs = some x) : ∃ y : Int, cs = intL y ∧ True := by
  obtain ⟨a, ha, _⟩ := DataW.trod_int Try.underlying3 h
  exact ⟨a, ha, trivial⟩
theorem rg_cells (h : DataW.trod enc Try.prog w base spare held fuel 42 cs = some x) : ∃ y : Rg, cs = rgL y ∧ True := by
  obtain ⟨xs, m, _, _, hlen, hxl, hg⟩ := DataW.trod_struct Try.underlying42 h
  rw [Try.cells42] at hlen
  obtain ⟨c0, c1, rfl⟩ := len2 hlen
  obtain ⟨y0, y1, rfl⟩ := len2 (show xs.length = 2 from hxl)
  have h0 := hg 0 _ rfl
  have h1 := hg 1 _ rfl
  simp [Try.cells3] at h0 h1
  obtain ⟨a, ha, _⟩ := DataW.trod_int Try.underlying3 h0
  obtain ⟨b, hb, _⟩ := DataW.trod_int Try.underlying3 h1
  injection ha with ha
  injection hb with hb
  exact ⟨⟨a, b⟩, by rw [ha, hb], trivial⟩
theorem bd_cells (h : DataW.trod enc Try.prog w base spare held fuel 69 cs = some x) : ∃ y : Bd, cs = bdL y ∧ True := by
  obtain ⟨xs, m, _, _, hlen, hxl, hg⟩ := DataW.trod_struct Try.underlying69 h
  rw [Try.cells69] at hlen
  obtain ⟨c0, c1, c2, c3, c4, c5, c6, c7, rfl⟩ := len8 hlen
  obtain ⟨y0, y1, y2, y3, y4, rfl⟩ := len5 (show xs.length = 5 from hxl)
  have h0 := hg 0 _ rfl
  have h1 := hg 1 _ rfl
  have h2 := hg 2 _ rfl
  have h3 := hg 3 _ rfl
  have h4 := hg 4 _ rfl
  simp [Try.cells3, Try.cells42] at h0 h1 h2 h3 h4
  obtain ⟨a, ha, _⟩ := DataW.trod_int Try.underlying3 h0
  obtain ⟨b, hb, _⟩ := DataW.trod_int Try.underlying3 h1
  obtain ⟨r2, hr2, _⟩ := rg_cells h2
  obtain ⟨r3, hr3, _⟩ := rg_cells h3
  obtain ⟨r4, hr4, _⟩ := rg_cells h4
  injection ha with ha
  injection hb with hb
  simp only [rgL, List.cons.injEq, and_true] at hr2 hr3 hr4
  exact ⟨⟨a, b, r2, r3, r4⟩, by rw [ha, hb, hr2.1, hr2.2, hr3.1, hr3.2, hr4.1, hr4.2], trivial⟩
theorem col_cells (h : DataW.trod enc Try.prog w base spare held fuel 66 cs = some x) : ∃ y : Cl, cs = clL y ∧ (y.beds.length ≤ maxLen ∧ Row bdL 8 w w.heap.size y.a y.beds) := by
  obtain ⟨A, l, cp, e, hl, hr, _⟩ := open_rowP (ec := bdL) Try.underlying66 Try.cells69 (fun _ => rfl) (by omega) bd_cells h
  exact ⟨⟨l, A, cp⟩, e, hl, hr⟩
theorem slope_open (h : DataW.trod enc Try.prog w base spare held fuel 24 cs = some x) : ∃ s : Sm, cs = (smC s).toList ∧ SmOk s w := by
  obtain ⟨xs, m, _, _, hlen, hxl, hg⟩ := DataW.trod_struct Try.underlying24 h
  rw [Try.cells24] at hlen
  obtain ⟨c0, c1, rfl⟩ := len2 hlen
  obtain ⟨y0, y1, rfl⟩ := len2 (show xs.length = 2 from hxl)
  have h0 := hg 0 _ rfl
  have h1 := hg 1 _ rfl
  simp [Try.cells3, Try.cells22] at h0 h1
  obtain ⟨A, l, cp, e0, _, hr, hc⟩ := open_rowP (ec := clL) Try.underlying22 Try.cells66 (fun _ => rfl) (by omega) col_cells h0
  obtain ⟨a, e1, _⟩ := DataW.trod_int Try.underlying3 h1
  injection e0 with e0
  injection e1 with e1
  exact ⟨⟨l, A, cp, a⟩, by rw [e0, e1], ⟨hr, fun y hy => (hc y hy).2⟩⟩
theorem ints_open (h : DataW.trod enc Try.prog w base spare held fuel 25 cs = some x) : ∃ (D : Option Addr) (l : List Int) (dp : Nat), cs = [.slice D l.length dp] ∧ l.length ≤ maxLen ∧ Row intL 1 w w.heap.size D l := by
  obtain ⟨A, l, cp, e, hl, hr, _⟩ := open_rowP (ec := intL) Try.underlying25 Try.cells3 (fun _ => rfl) (by omega) int_cells h
  exact ⟨A, l, cp, e, hl, hr⟩
@[go_sem] theorem run_field42 (a b : Value) (w : World) : Sem.run Try.prog (Instr.field 42 (.agg #[a, b]) 0) w = .ok a w := by
  simp [Instr.field, asAgg, part, go_sem]
end
end

section
open Go.RowKit Go.Shelf Go.Deep
/-- What the rounds over the beds beside a bed hold. -/
structure BhJ (s : Sm) (f : Int) (t : Option Bool) (A : Option Addr) (c : Nat) (l : List Int) (b nb bb lb D : Nat) (n : Int) (r : Loop) (w W : World) : Prop where
  nw : newer w W
  sl : Whole W (w.heap.size + 1) 25 #[.slice A l.length c]
  nx : Whole W nb 3 #[vi n]
  bx : Whole W bb 3 #[vi b]
  lx : Whole W lb 115 (lkC s f t)
  df : W.heap[D]? = some (.deferred (some []))
  lo : W.heap[D + 1]? = some (.loop r)
  so : w.heap.size + 1 < nb ∧ nb < lb ∧ lb < bb ∧ bb < D
section
variable {s : Sm} {f : Int} {t : Option Bool} {A : Option Addr} {c : Nat} {l : List Int} {b nb bb lb D : Nat} {n : Int} {r : Loop} {w W W' : World}
theorem BhJ.next (h : BhJ s f t A c l b nb bb lb D n r w W) (hb : newer W W') : BhJ s f t A c l b nb bb lb D n r w W' :=
  ⟨newer_trans h.nw hb, h.sl.below hb h.sl.lt, h.nx.below hb h.nx.lt, h.bx.below hb h.bx.lt, h.lx.below hb h.lx.lt, (hb.block _ (Array.getElem?_eq_some_iff.1 h.df).1).trans h.df, (hb.block _ (Array.getElem?_eq_some_iff.1 h.lo).1).trans h.lo, h.so⟩
theorem newer_put {w W : World} (h : newer w W) {D : Nat} (hD : w.heap.size ≤ D) (o : Obj) : newer w (W.putObj D o) := below_grown (grown_put (grown_of_newer h none) hD o) (fun q e => by cases e) (Nat.le_refl _)
theorem BhJ.put (h : BhJ s f t A c l b nb bb lb D n r w W) (r' : Loop) : BhJ s f t A c l b nb bb lb D n r' w (W.putObj (D + 1) (.loop r')) := by
  have h3 := h.so
  have hD := (Array.getElem?_eq_some_iff.1 h.lo).1
  exact ⟨newer_put h.nw (by omega) _, h.sl.put (by omega) _, h.nx.put (by omega) _, h.bx.put (by omega) _, h.lx.put (by omega) _, (World.putObj_heap_other (by omega)).trans h.df, World.putObj_heap_same hD, h.so⟩
theorem BhJ.set (h : BhJ s f t A c l b nb bb lb D n r w W) (v : Int) : BhJ s f t A c l b nb bb lb D v r w (W.setCell ⟨nb, 0, none⟩ (vi v)) := by
  have h3 := h.so
  have hg : W.grownBy (W.setCell ⟨nb, 0, none⟩ (vi v)) (some nb) := grown_set (p := ⟨nb, 0, none⟩) (grown_refl W (some nb)) (.inl rfl) _
  have ne : ∀ {k : Nat}, k ≠ nb → some k ≠ some nb := fun h e => h (by injection e)
  exact ⟨h.nw.setCell (p := ⟨nb, 0, none⟩) (by show w.heap.size ≤ nb; omega) _, h.sl.grown hg (ne (by omega)), h.nx.set 0 (vi v), h.bx.grown hg (ne (by omega)), h.lx.grown hg (ne (by omega)), (hg.block _ (Array.getElem?_eq_some_iff.1 h.df).1 (ne (by omega))).trans h.df, (hg.block _ (Array.getElem?_eq_some_iff.1 h.lo).1 (ne (by omega))).trans h.lo, h.so⟩
end
def vTwoN (B : Nat) (x y : Int) (v : Value) (W : World) : Prop := ∃ q, v = .slice (some ⟨q, 0, none⟩) 2 2 ∧ B ≤ q ∧ Whole W q 3 #[vi x, vi y]
theorem vTwoN_st {B : Nat} {x y : Int} : ∀ v W W', vTwoN B x y v W → newer W W' → vTwoN B x y v W' := fun _ _ _ ⟨q, h1, h2, h4⟩ hb => ⟨q, h1, h2, h4.below hb h4.lt⟩
attribute [local go_sem] Oper.semAt_some
set_option maxRecDepth 100000 in
set_option maxHeartbeats 1000000 in
theorem behind_any (s : Sm) (f : Int) (t : Option Bool) (l : List Int) (A : Option Addr) (c b : Nat) (w : World) (hok : SmOk s w) (hs : SdOk s.sd) (hb : b < s.sd.n) (hl : l.length = s.sd.n) (hr : Row intL 1 w w.heap.size A l) :
    Calls Try.prog 82 #[lkV s f t, .slice A l.length c, vi b] w fun e w' => e = .returned (vi (behindN bigN s.sd.n (iAt l) b)) ∧ newer w w' := by
  have HOK := Lib.hid (And.intro hok hr)
  have hcl := hs.cols
  rw [sd_len] at hcl
  obtain ⟨x, hx⟩ := get_of_lt (l := s.cs) (k := 0) (by omega)
  have hxn : x.beds.length = s.sd.n := (sd_n hx).symm
  have HX := Lib.hid (And.intro hx hxn)
  have HN5 := Lib.hid hs.beds
  have HL := Lib.hid hl
  have HF : Hid (newer w (((w.alloc (.cells (lkC s f t) 115)).alloc (.cells #[.slice A l.length c] 25)).alloc (.cells #[vi bigN] 3)) ∧ Whole (((w.alloc (.cells (lkC s f t) 115)).alloc (.cells #[.slice A l.length c] 25)).alloc (.cells #[vi bigN] 3)) w.heap.size 115 (lkC s f t) ∧ Whole (((w.alloc (.cells (lkC s f t) 115)).alloc (.cells #[.slice A l.length c] 25)).alloc (.cells #[vi bigN] 3)) (w.heap.size + 1) 25 #[.slice A l.length c] ∧ Whole (((w.alloc (.cells (lkC s f t) 115)).alloc (.cells #[.slice A l.length c] 25)).alloc (.cells #[vi bigN] 3)) (w.heap.size + 1 + 1) 3 #[vi bigN]) := Lib.hid (by
    have e1 := newer_allocH w (.cells (lkC s f t) 115)
    have e2 := newer_allocH (w.alloc (.cells (lkC s f t) 115)) (.cells #[.slice A l.length c] 25)
    have e3 := newer_allocH ((w.alloc (.cells (lkC s f t) 115)).alloc (.cells #[.slice A l.length c] 25)) (.cells #[vi bigN] 3)
    have a1 := Whole.made w 115 (lkC s f t)
    have a2 := Whole.made (w.alloc (.cells (lkC s f t) 115)) 25 #[.slice A l.length c]
    have a3 := Whole.made ((w.alloc (.cells (lkC s f t) 115)).alloc (.cells #[.slice A l.length c] 25)) 3 #[vi bigN]
    rw [World.size_alloc] at a2
    rw [World.size_alloc, World.size_alloc] at a3
    exact ⟨newer_trans (newer_trans e1 e2) e3, (a1.below e2 a1.lt).below e3 (by simp; omega), a2.below e3 a2.lt, a3⟩)
  clear hok hs hl hr hx hxn hcl
  refine callsIn_wide.1 (callsIn_of_wp_marks (n := 9) Try.func82 rfl trivial ?_ rfl)
  simp only [Try.ntmps82, List.size_toArray, List.length_cons, List.length_nil, Nat.reduceAdd, Nat.reduceSub, Array.replicate_succ, Array.replicate_zero, List.push_toArray, List.append_toArray, List.nil_append, List.cons_append]
  refine wpIn_wide.2 ?_
  go_upto_region 2 with fail
  refine genQ (fun X => newer w X ∧ Whole X w.heap.size 115 (lkC s f t) ∧ Whole X (w.heap.size + 1) 25 #[.slice A l.length c] ∧ Whole X (w.heap.size + 1 + 1) 3 #[vi bigN]) HF.out ?_
  clear HF
  rintro w2 ⟨p1, p2, p3, p4⟩
  have l0 := p2.at 0 (v := .slice s.a s.cs.length s.c) rfl
  have l1 := p2.at 1 (v := vi s.least) rfl
  have l2 := p2.at 2 (v := vi f) rfl
  have l3 := p2.at 3 (v := .func (.func (trF t)) #[] #[]) rfl
  have H2 := Lib.hid (And.intro p1 (And.intro p2 (And.intro p3 p4)))
  clear p1 p2 p3 p4
  go_wp2_with fail
  refine (next_any s f t b _).mono ?_
  rintro e w6 ⟨rfl, hw6⟩
  have HX6 : Hid (newer w w6 ∧ Whole w6 (w.heap.size + 1) 25 #[.slice A l.length c] ∧ Whole w6 (w.heap.size + 1 + 1) 3 #[vi bigN] ∧ Whole w6 (w2.heap.size + 1) 3 #[vi b] ∧ Whole w6 w2.heap.size 115 (lkC s f t) ∧ w.heap.size + 1 + 1 < w2.heap.size) := Lib.hid (by
    have e1 : newer w2 (w2.alloc (.cells (lkC s f t) 115)) := newer_allocH _ _
    have e2 : newer (w2.alloc (.cells (lkC s f t) 115)) w6 := hw6 ▸ newer_allocH _ _
    have e3 := newer_trans e1 e2
    obtain ⟨a1, a2, a3, a4⟩ := H2.out
    refine ⟨newer_trans a1 e3, a3.below e3 a3.lt, a4.below e3 a4.lt, ?_, ?_, a4.lt⟩
    · rw [← hw6]
      have e5 := Whole.made (w2.alloc (.cells (lkC s f t) 115)) 3 #[vi b]
      rw [World.size_alloc] at e5
      exact e5
    · have e4 := Whole.made w2 115 (lkC s f t)
      exact e4.below e2 e4.lt)
  obtain ⟨lb, hlb⟩ : ∃ lb, lb = w2.heap.size := ⟨_, rfl⟩
  rw [← hlb] at HX6 ⊢
  obtain ⟨nb, hnb⟩ : ∃ nb, nb = w.heap.size + 1 + 1 := ⟨_, rfl⟩
  have HNB := Lib.hid hnb
  rw [← hnb] at HX6 ⊢
  clear hlb hnb hw6 H2 l0 l1 l2 l3
  go_wp2_with fail
  refine (wpIn_wide (n := 9)).1 (range_law (gf := 115) (lb := #[.pointer (some ⟨lb + 1, 0, none⟩), .pointer (some ⟨lb, 0, none⟩)]) rfl (enters_of Try.func115 (by kernel_rfl) rfl) ?_)
  intro r0 r1 r2 r3 r4 r5 r6
  refine (callsIn_wide.1 (next_in 8 (w6.heap.size + 1) (lb + 1) lb s f t x b HX.out.1 (by rw [HX.out.2]; exact hb) (by rw [HX.out.2]; have := HN5.out; omega) (fun k W => BhJ s f t A c l b nb (lb + 1) lb w6.heap.size (minL bigN (((nearL s.sd.n b).take k).map (iAt l))) r0 w W) ?hJ ?hN ?hY _ ?h0)).mono ?_
  case hJ => exact fun k W hj => ⟨hj.bx, hj.lx, HOK.out.1.next hj.nw⟩
  case hN => exact fun k W W' hj hb => hj.next hb
  case h0 =>
    have e1 := newer_trans (newer_allocH w6 (.deferred (some []))) (newer_allocH (w6.alloc (.deferred (some []))) (.loop r0))
    obtain ⟨a1, a2, a3, a5, a6, a7⟩ := HX6.out
    have b3 := HNB.out
    have b4 := a5.lt
    refine ⟨newer_trans a1 e1, a2.below e1 a2.lt, a3.below e1 a3.lt, a5.below e1 a5.lt, a6.below e1 a6.lt, ?_, ?_, by omega⟩
    · simp only [heap_if, World.size_alloc]
      repeat rw [if_neg (by omega)]
      rfl
    · simp only [heap_if, World.size_alloc]
      repeat rw [if_neg (by omega)]
      rfl
  case hY =>
    intro k W hk hj
    rw [show ((loN b : Nat) : Int) + (k : Int) = ((loN b + k : Nat) : Int) from rfl]
    rw [HX.out.2] at hk
    rw [near_take s.sd.n b k _ hk]
    have hkn : loN b + k < s.sd.n := by
      unfold cntN at hk
      unfold loN
      omega
    have hkll : loN b + k < l.length := by rw [HL.out]; exact hkn
    obtain ⟨rv, hrv⟩ : ∃ rv, rv = iAt l (loN b + k) := ⟨_, rfl⟩
    obtain ⟨ab, ao, eA, c0⟩ := row1k ((HOK.out.2.below hj.nw).more hj.nw.size) hkll
    rw [← hrv] at c0 ⊢
    obtain ⟨nk, hnk⟩ : ∃ nk, nk = minL bigN (((nearL s.sd.n b).take k).map (iAt l)) := ⟨_, rfl⟩
    rw [← hnk] at hj ⊢
    have HCC : Hid (∀ W', newer w W' → W'.cell? ⟨ab, ao + (loN b + k), none⟩ = some (vi rv)) := Lib.hid (fun W' hW' => by
      obtain ⟨ab2, ao2, eA2, c2⟩ := row1k ((HOK.out.2.below hW').more hW'.size) hkll
      rw [eA] at eA2
      injection eA2 with eA2
      injection eA2 with e1 e2
      subst e1
      subst e2
      rw [← hrv] at c2
      exact c2)
    have HEA := Lib.hid eA
    obtain ⟨z, hz⟩ : ∃ z, z = loN b + k := ⟨_, rfl⟩
    rw [← hz] at hkn hkll HCC ⊢
    clear hrv hnk c0 eA hz hkn
    refine yield_round (r := r0) hj.lo r1 r2 (by rw [r4]; rfl) ?_
    rw [r3, r4, r5, r6]
    simp only [List.zip_toArray, List.zip_cons_cons, List.zip_nil_right, List.foldl_toArray, List.foldl_cons, List.foldl_nil, List.setIfInBounds_toArray, List.set_cons_zero, List.set_cons_succ]
    gi_wp2_with fail
    refine ⟨hj.lo, ?_⟩
    have hj5 := hj.put (busyOf r0)
    obtain ⟨w7, hw7⟩ : ∃ w7, w7 = W.putObj (w6.heap.size + 1) (.loop (busyOf r0)) := ⟨_, rfl⟩
    rw [← hw7] at hj5 ⊢
    clear hw7 hj W
    obtain ⟨bb, hbb⟩ : ∃ bb, bb = lb + 1 := ⟨_, rfl⟩
    obtain ⟨D, hD⟩ : ∃ D, D = w6.heap.size := ⟨_, rfl⟩
    rw [← hbb, ← hD] at hj5 ⊢
    have HJ := Lib.hid hj5
    have n0 := hj5.nx.at 0 (v := vi nk) rfl
    have s0 := hj5.sl.at 0 (v := .slice A l.length c) rfl
    have c0 := HCC.out w7 hj5.nw
    rw [HEA.out] at s0
    have hkl : (z : Int) < l.length := by omega
    clear hj5 r1 r2 r3 r4 r5 r6 hbb hD HX6
    gi_wp2_with fail
    refine round_words (by kernel_rfl) (by kernel_rfl) (fun _ _ h => h) (region_told 7 (by kernel_rfl) (by kernel_rfl) (fun W => Below w7.heap.size w7 W) newer (pickD [vIs (vi nk), vIs (.slice (some ⟨ab, ao, none⟩) l.length c), vIs (vi z), vIs (.pointer (some ⟨ab, ao + z, none⟩)), vIs (vi rv), vTwoN w7.heap.size nk rv, vIs (vi (mnI nk rv))]) (fun h k => newer_trans h k) (pickD_stable _ ⟨vIs_st, vIs_st, vIs_st, vIs_st, vIs_st, vTwoN_st, vIs_st, trivial⟩) (Below.refl _ w7).drew (Below.refl _ _) ?_ ?_)
    · refine ⟨?_, ?_, ?_, ?_, ?_, ?_, ?_, trivial⟩
      · intro a W hG hR hO hp
        have h7 := hO.slot 7 (by kernel_rfl)
        have c0 := keep_cell n0 hG
        refine wp_yields (v := vi nk) ?_ ⟨_, rfl, rfl, Below.refl _ _, hG⟩
        simp [slotOf] at h7
        simp [execOp, go_sem, h7, c0]
      · intro a W hG hR hO hp
        have h4 := hO.slot 4 (by kernel_rfl)
        have c0 := keep_cell s0 hG
        refine wp_yields (v := .slice (some ⟨ab, ao, none⟩) l.length c) ?_ ⟨_, rfl, rfl, Below.refl _ _, hG⟩
        simp [slotOf] at h4
        simp [execOp, go_sem, h4, c0]
      · intro a W hG hR hO hp
        have h8 := hO.slot 8 (by kernel_rfl)
        refine wp_yields (v := vi z) ?_ ⟨_, rfl, rfl, Below.refl _ _, hG⟩
        simp [slotOf] at h8
        simp [execOp, go_sem, h8]
      · intro a W hG hR hO hp
        have h14 : slotOf a 14 = .slice (some ⟨ab, ao, none⟩) l.length c := hp.1
        have h15 : slotOf a 15 = vi z := hp.2.1
        refine wp_yields (v := .pointer (some ⟨ab, ao + z, none⟩)) ?_ ⟨_, rfl, rfl, Below.refl _ _, hG⟩
        simp [slotOf] at h14 h15
        simp [execOp, go_sem, h14, h15, hkl]
      · intro a W hG hR hO hp
        have h16 : slotOf a 16 = .pointer (some ⟨ab, ao + z, none⟩) := hp.1
        have c0 := keep_cell c0 hG
        refine wp_yields (v := vi rv) ?_ ⟨_, rfl, rfl, Below.refl _ _, hG⟩
        simp [slotOf] at h16
        simp [execOp, go_sem, h16, c0]
      · intro a W hG hR hO hp
        have h13 : slotOf a 13 = vi nk := hp.1
        have h17 : slotOf a 17 = vi rv := hp.2.1
        refine wp_makes (v := .slice (some ⟨W.heap.size, 0, none⟩) 2 2) (W' := W.alloc (.cells #[vi nk, vi rv] 3)) ?_ ⟨_, rfl, ⟨W.heap.size, rfl, hG.size, Whole.made _ _ _⟩, newer_allocH _ _, below_next hG (newer_allocH _ _)⟩
        simp [slotOf] at h13 h17
        simp [execOp, go_sem, h13, h17]
      · intro a W hG hR hO hp
        have h18 := hp.1
        obtain ⟨q, h18, hq1, hq3⟩ := h18
        refine wp_enters (f := 83) (args := #[.slice (some ⟨q, 0, none⟩) 2 2]) ?_ ((least2_any nk rv q 2 W hq3).mono ?_)
        · simp [slotOf] at h18
          simp [go_sem, h18]
        · rintro e w' ⟨rfl, rfl⟩
          exact ⟨_, rfl, _, rfl, rfl, Below.refl _ _, hG⟩
    · intro wz hG hR
      rintro _ rfl _ rfl _ rfl _ rfl _ rfl _ - _ rfl
      change wpList _ _ _ _ _ _
      simp only [Act.put, List.setIfInBounds_toArray, List.set_cons_zero, List.set_cons_succ, List.drop_succ_cons, List.drop_zero]
      have hjz := HJ.out.next hG
      have n0 := hjz.nx.at 0 (v := vi nk) rfl
      have nf := hjz.nx.free 0
      have hS := hjz.set (mnI nk rv)
      have HX8 := Lib.hid (And.intro hS.lo (hS.put r0))
      clear hS hG hR hjz
      go_wp2_with fail
      refine onlyN_intro ?_
      gi_wp2_with fail
      exact ⟨HX8.out.1, rfl, HX8.out.2⟩
  · rintro e W ⟨⟨v, rfl⟩, hj⟩
    refine ⟨⟨_, rfl⟩, .inl ⟨hj.lo, ?_⟩⟩
    rw [HX.out.2, near_all] at hj
    obtain ⟨nz, hnz⟩ : ∃ nz, nz = minL bigN ((nearL s.sd.n b).map (iAt l)) := ⟨_, rfl⟩
    rw [← hnz] at hj
    have HV := Lib.hid (show nz = behindN bigN s.sd.n (iAt l) b from hnz)
    clear hnz
    have hj2 := hj.put (overOf r0)
    have HJ := Lib.hid hj2
    have n0 := hj2.nx.at 0 (v := vi nz) rfl
    clear hj hj2 r1 r2 r3 r4 r5 r6 HX6
    go_wp2_with fail
    refine ⟨by simp, .inl ⟨_, _, rfl, run_takeDeferred HJ.out.df, ?_⟩⟩
    refine ⟨_, by simp [results, Try.results82, go_sem]; rfl, by rw [HV.out], newer_put HJ.out.nw (by have := HJ.out.so; omega) _⟩
end

section
open Go.RowKit Go.Shelf Go.Deep
/-- A list of numbers in memory; a row of such lists. -/
structure Ln where
  l : List Int
  a : Option Addr
  c : Nat
structure Rw where
  ls : List Ln
  a : Option Addr
  c : Nat
abbrev lnL (x : Ln) : List Value := [.slice x.a x.l.length x.c]
abbrev lnV (x : Ln) : Value := .slice x.a x.l.length x.c
abbrev rwL (x : Rw) : List Value := [.slice x.a x.ls.length x.c]
abbrev rwV (x : Rw) : Value := .slice x.a x.ls.length x.c
def Rw.d (r : Rw) : List (List Int) := r.ls.map (·.l)
/-- A table lies in memory. -/
structure TbOk (ts : List Rw) (A : Option Addr) (W : World) : Prop where
  rows : Row rwL 1 W W.heap.size A ts
  lss : ∀ r ∈ ts, Row lnL 1 W W.heap.size r.a r.ls
  nums : ∀ r ∈ ts, ∀ x ∈ r.ls, Row intL 1 W W.heap.size x.a x.l
theorem TbOk.next {ts : List Rw} {A : Option Addr} {W W' : World} (h : TbOk ts A W) (hb : newer W W') : TbOk ts A W' := ⟨(h.rows.below hb).more hb.size, fun r hr => ((h.lss r hr).below hb).more hb.size, fun r hr x hx => ((h.nums r hr x hx).below hb).more hb.size⟩
structure TbFew (ts : List Rw) : Prop where
  rows : ts.length ≤ 1000
  lss : ∀ r ∈ ts, r.ls.length ≤ 1000
  nums : ∀ r ∈ ts, ∀ x ∈ r.ls, x.l.length ≤ 1000
theorem rowLn {w : World} {B : Nat} {A : Option Addr} {l : List Ln} (h : Row lnL 1 w B A l) {k : Nat} {c : Ln} (hk : l[k]? = some c) :
    ∃ b off, A = some ⟨b, off, none⟩ ∧ b < B ∧ w.cell? ⟨b, off + k, none⟩ = some (.slice c.a c.l.length c.c) := by
  obtain ⟨b, off, e, hb, hc⟩ := h (ne_nil_of_get hk)
  exact ⟨b, off, e, hb, by simpa using hc k c hk 0 _ rfl⟩
theorem rowRw {w : World} {B : Nat} {A : Option Addr} {l : List Rw} (h : Row rwL 1 w B A l) {k : Nat} {c : Rw} (hk : l[k]? = some c) :
    ∃ b off, A = some ⟨b, off, none⟩ ∧ b < B ∧ w.cell? ⟨b, off + k, none⟩ = some (.slice c.a c.ls.length c.c) := by
  obtain ⟨b, off, e, hb, hc⟩ := h (ne_nil_of_get hk)
  exact ⟨b, off, e, hb, by simpa using hc k c hk 0 _ rfl⟩
theorem rowI {w : World} {B : Nat} {A : Option Addr} {l : List Int} (h : Row intL 1 w B A l) {k : Nat} {c : Int} (hk : l[k]? = some c) :
    ∃ b off, A = some ⟨b, off, none⟩ ∧ b < B ∧ w.cell? ⟨b, off + k, none⟩ = some (.int .i64 c) := by
  obtain ⟨b, off, e, hb, hc⟩ := h (ne_nil_of_get hk)
  exact ⟨b, off, e, hb, by simpa using hc k c hk 0 _ rfl⟩
/-- Has a list, a row, a table the right lengths, and numbers? -/
def shL (n : Nat) (l : List Int) : Bool := decide (l.length = n) && l.all fun v => inB v (-bigN) bigN
def shR (n cols : Nat) (r : List (List Int)) : Bool := decide (r.length = cols) && r.all (shL n)
def shT (n cols : Nat) (K : Int) (t : List (List (List Int))) : Bool := decide ((t.length : Int) = K) && t.all (shR n cols)
set_option maxHeartbeats 400000 in
theorem notIn_any (x : Int) (rb : Nat) (b : Bool) (w : World) (hr : w.cell? ⟨rb, 0, none⟩ = some (.func (.func 102) #[] #[]))
    (hf : ∀ W, Below w.heap.size w W → Calls Try.prog 102 #[vi x] W fun e w' => e = .returned (.bool b) ∧ Below W.heap.size W w') :
    Calls Try.prog 117 #[vi x, .pointer (some ⟨rb, 0, none⟩)] w fun e w' => e = .returned (.bool (!b)) ∧ Below w.heap.size w w' := by
  have HF := Lib.hid hf
  have hlt := World.block_lt_of_cell? w _ hr
  dsimp only at hlt
  clear hf
  go_enter Try.func117, Try.ntmps117
  go_wp2_with (go_at_call 102; refine (HF.out _ (Below.refl _ _)).mono ?_; rintro e w' ⟨rfl, hb⟩)
  go_ret
  exact ⟨rfl, hb⟩
set_option maxHeartbeats 400000 in
theorem idxIn_any (l : List Int) (p : Int → Bool) (cp rb : Nat) (A : Option Addr) (w : World) (hn : l.length ≤ 1000) (hrow : Row intL 1 w w.heap.size A l)
    (hf : ∀ c ∈ l, ∀ W, Below w.heap.size w W → Calls Try.prog 117 #[vi c, .pointer (some ⟨rb, 0, none⟩)] W fun e w' => e = .returned (.bool (p c)) ∧ Below W.heap.size W w') :
    Calls Try.prog 124 #[.slice A l.length cp, .func (.func 117) #[] #[.pointer (some ⟨rb, 0, none⟩)]] w fun e w' => e = .returned (.int .i64 (idx p l)) ∧ Below w.heap.size w w' := by
  have HF := Lib.hid hf
  clear hf
  obtain ⟨n, hnl⟩ : ∃ n, n = l.length := ⟨_, rfl⟩
  rw [← hnl] at hn ⊢
  have HN := Lib.hid hnl
  clear hnl
  go_enter Try.func124, Try.ntmps124
  go_wp2
  go_loopw [4, 5, 8] (fun _ _ i wr => ∃ k : Nat, k ≤ n ∧ i = .int .i64 k ∧ Below w.heap.size w wr ∧ early p l k) (fun _ _ i _ => n - (intOf i).toNat)
  case atStart => exact ⟨0, Nat.zero_le _, rfl, Below.refl _ _, early_zero _ _⟩
  case round =>
    obtain ⟨k, hk, rfl, hbw, he⟩ := hrel
    have HE := Lib.hid he
    clear he
    by_cases hlt : k < n
    · obtain ⟨c, hc⟩ := get_of_lt (l := l) (k := k) (by have := HN.out; omega)
      obtain ⟨b, off, rfl, hb, h0⟩ := rowI (hrow.below hbw) hc
      have HC := Lib.hid hc
      clear hc
      cases hp : p c
      · go_wp2_with (go_at_call 117; refine (HF.out c (List.mem_of_getElem? HC.out) _ hbw).mono ?_; rintro e w' ⟨rfl, hb2⟩)
        go_roundw
        case rel => exact ⟨k + 1, by omega, by go_num, below_next hbw hb2, early_succ HE.out HC.out hp⟩
        case measure => simp [intOf]; omega
      · go_wp2_with (go_at_call 117; refine (HF.out c (List.mem_of_getElem? HC.out) _ hbw).mono ?_; rintro e w' ⟨rfl, hb2⟩)
        go_ret
        exact ⟨ret_int (idx_here p l k c HC.out hp HE.out).symm, below_next hbw hb2⟩
    · go_wp2_with fail
      go_ret
      have hkn : k = l.length := by have := HN.out; omega
      exact ⟨ret_int (idx_none p l (hkn ▸ HE.out)).symm, hbw⟩
set_option maxHeartbeats 400000 in
theorem containsIn_any (l : List Int) (p : Int → Bool) (cp rb : Nat) (A : Option Addr) (w : World) (hn : l.length ≤ 1000) (hrow : Row intL 1 w w.heap.size A l)
    (hf : ∀ c ∈ l, ∀ W, Below w.heap.size w W → Calls Try.prog 117 #[vi c, .pointer (some ⟨rb, 0, none⟩)] W fun e w' => e = .returned (.bool (p c)) ∧ Below W.heap.size W w') :
    Calls Try.prog 116 #[.slice A l.length cp, .func (.func 117) #[] #[.pointer (some ⟨rb, 0, none⟩)]] w fun e w' => e = .returned (.bool (decide (0 ≤ idx p l))) ∧ Below w.heap.size w w' := by
  have HF := Lib.hid hf
  clear hf
  go_enter Try.func116, Try.ntmps116
  go_wp2_with (go_at_call 124; refine (idxIn_any l p cp rb A _ hn hrow HF.out).mono ?_; rintro e w' ⟨rfl, hb2⟩)
  go_ret
  exact ⟨rfl, hb2⟩
set_option maxHeartbeats 400000 in
theorem allIn_any (l : List Int) (p : Int → Bool) (cp : Nat) (A : Option Addr) (w : World) (hn : l.length ≤ 1000) (hrow : Row intL 1 w w.heap.size A l)
    (hf : ∀ c ∈ l, ∀ W, Below w.heap.size w W → Calls Try.prog 102 #[vi c] W fun e w' => e = .returned (.bool (p c)) ∧ Below W.heap.size W w') :
    Calls Try.prog 104 #[.slice A l.length cp, .func (.func 102) #[] #[]] w fun e w' => e = .returned (.bool (l.all p)) ∧ Below w.heap.size w w' := by
  have hX := containsIn_any l (fun c => !p c) cp w.heap.size A (w.alloc (.cells #[.func (.func 102) #[] #[]] 124)) hn (hrow_ok hrow _) (fun c hc W hW => notIn_any c w.heap.size (p c) W (keep_cell (Whole.at (Whole.made w 124 #[.func (.func 102) #[] #[]]) 0 rfl) hW) fun W' hW' => hf c hc W' (below_next (below_next ((Below.refl _ _).alloc (Nat.le_refl _) _) hW) hW'))
  have HX := Lib.hid hX
  clear hX hf
  go_enter Try.func104, Try.ntmps104
  go_wp2_with (go_at_call 116; refine (HX.out).mono ?_; rintro e w' ⟨rfl, hb2⟩)
  go_ret
  exact ⟨ret_bool (idx_all p l), below_next ((Below.refl _ _).alloc (Nat.le_refl _) _) hb2⟩
set_option maxHeartbeats 400000 in
theorem notLn_any (x : Ln) (rb : Nat) (b : Bool) (w : World) (na nb : Nat) (hr : w.cell? ⟨rb, 0, none⟩ = some (.func (.func 103) #[] #[.pointer (some ⟨na, 0, none⟩), .pointer (some ⟨nb, 0, none⟩)]))
    (hf : ∀ W, Below w.heap.size w W → Calls Try.prog 103 #[lnV x, .pointer (some ⟨na, 0, none⟩), .pointer (some ⟨nb, 0, none⟩)] W fun e w' => e = .returned (.bool b) ∧ Below W.heap.size W w') :
    Calls Try.prog 121 #[lnV x, .pointer (some ⟨rb, 0, none⟩)] w fun e w' => e = .returned (.bool (!b)) ∧ Below w.heap.size w w' := by
  have HF := Lib.hid hf
  have hlt := World.block_lt_of_cell? w _ hr
  dsimp only at hlt
  clear hf
  go_enter Try.func121, Try.ntmps121
  go_wp2_with (go_at_call 103; refine (HF.out _ (Below.refl _ _)).mono ?_; rintro e w' ⟨rfl, hb⟩)
  go_ret
  exact ⟨rfl, hb⟩
set_option maxHeartbeats 400000 in
theorem idxLn_any (l : List Ln) (p : Ln → Bool) (cp rb : Nat) (A : Option Addr) (w : World) (hn : l.length ≤ 1000) (hrow : Row lnL 1 w w.heap.size A l)
    (hf : ∀ c ∈ l, ∀ W, Below w.heap.size w W → Calls Try.prog 121 #[lnV c, .pointer (some ⟨rb, 0, none⟩)] W fun e w' => e = .returned (.bool (p c)) ∧ Below W.heap.size W w') :
    Calls Try.prog 126 #[.slice A l.length cp, .func (.func 121) #[] #[.pointer (some ⟨rb, 0, none⟩)]] w fun e w' => e = .returned (.int .i64 (idx p l)) ∧ Below w.heap.size w w' := by
  have HF := Lib.hid hf
  clear hf
  obtain ⟨n, hnl⟩ : ∃ n, n = l.length := ⟨_, rfl⟩
  rw [← hnl] at hn ⊢
  have HN := Lib.hid hnl
  clear hnl
  go_enter Try.func126, Try.ntmps126
  go_wp2
  go_loopw [4, 5, 8] (fun _ _ i wr => ∃ k : Nat, k ≤ n ∧ i = .int .i64 k ∧ Below w.heap.size w wr ∧ early p l k) (fun _ _ i _ => n - (intOf i).toNat)
  case atStart => exact ⟨0, Nat.zero_le _, rfl, Below.refl _ _, early_zero _ _⟩
  case round =>
    obtain ⟨k, hk, rfl, hbw, he⟩ := hrel
    have HE := Lib.hid he
    clear he
    by_cases hlt : k < n
    · obtain ⟨c, hc⟩ := get_of_lt (l := l) (k := k) (by have := HN.out; omega)
      obtain ⟨b, off, rfl, hb, h0⟩ := rowLn (hrow.below hbw) hc
      have HC := Lib.hid hc
      clear hc
      cases hp : p c
      · go_wp2_with (go_at_call 121; refine (HF.out c (List.mem_of_getElem? HC.out) _ hbw).mono ?_; rintro e w' ⟨rfl, hb2⟩)
        go_roundw
        case rel => exact ⟨k + 1, by omega, by go_num, below_next hbw hb2, early_succ HE.out HC.out hp⟩
        case measure => simp [intOf]; omega
      · go_wp2_with (go_at_call 121; refine (HF.out c (List.mem_of_getElem? HC.out) _ hbw).mono ?_; rintro e w' ⟨rfl, hb2⟩)
        go_ret
        exact ⟨ret_int (idx_here p l k c HC.out hp HE.out).symm, below_next hbw hb2⟩
    · go_wp2_with fail
      go_ret
      have hkn : k = l.length := by have := HN.out; omega
      exact ⟨ret_int (idx_none p l (hkn ▸ HE.out)).symm, hbw⟩
set_option maxHeartbeats 400000 in
theorem containsLn_any (l : List Ln) (p : Ln → Bool) (cp rb : Nat) (A : Option Addr) (w : World) (hn : l.length ≤ 1000) (hrow : Row lnL 1 w w.heap.size A l)
    (hf : ∀ c ∈ l, ∀ W, Below w.heap.size w W → Calls Try.prog 121 #[lnV c, .pointer (some ⟨rb, 0, none⟩)] W fun e w' => e = .returned (.bool (p c)) ∧ Below W.heap.size W w') :
    Calls Try.prog 120 #[.slice A l.length cp, .func (.func 121) #[] #[.pointer (some ⟨rb, 0, none⟩)]] w fun e w' => e = .returned (.bool (decide (0 ≤ idx p l))) ∧ Below w.heap.size w w' := by
  have HF := Lib.hid hf
  clear hf
  go_enter Try.func120, Try.ntmps120
  go_wp2_with (go_at_call 126; refine (idxLn_any l p cp rb A _ hn hrow HF.out).mono ?_; rintro e w' ⟨rfl, hb2⟩)
  go_ret
  exact ⟨rfl, hb2⟩
set_option maxHeartbeats 400000 in
theorem allLn_any (l : List Ln) (p : Ln → Bool) (cp : Nat) (A : Option Addr) (w : World) (na nb : Nat) (hn : l.length ≤ 1000) (hrow : Row lnL 1 w w.heap.size A l)
    (hf : ∀ c ∈ l, ∀ W, Below w.heap.size w W → Calls Try.prog 103 #[lnV c, .pointer (some ⟨na, 0, none⟩), .pointer (some ⟨nb, 0, none⟩)] W fun e w' => e = .returned (.bool (p c)) ∧ Below W.heap.size W w') :
    Calls Try.prog 107 #[.slice A l.length cp, .func (.func 103) #[] #[.pointer (some ⟨na, 0, none⟩), .pointer (some ⟨nb, 0, none⟩)]] w fun e w' => e = .returned (.bool (l.all p)) ∧ Below w.heap.size w w' := by
  have hX := containsLn_any l (fun c => !p c) cp w.heap.size A (w.alloc (.cells #[.func (.func 103) #[] #[.pointer (some ⟨na, 0, none⟩), .pointer (some ⟨nb, 0, none⟩)]] 154)) hn (hrow_ok hrow _) (fun c hc W hW => notLn_any c w.heap.size (p c) W na nb (keep_cell (Whole.at (Whole.made w 154 #[.func (.func 103) #[] #[.pointer (some ⟨na, 0, none⟩), .pointer (some ⟨nb, 0, none⟩)]]) 0 rfl) hW) fun W' hW' => hf c hc W' (below_next (below_next ((Below.refl _ _).alloc (Nat.le_refl _) _) hW) hW'))
  have HX := Lib.hid hX
  clear hX hf
  go_enter Try.func107, Try.ntmps107
  go_wp2_with (go_at_call 120; refine (HX.out).mono ?_; rintro e w' ⟨rfl, hb2⟩)
  go_ret
  exact ⟨ret_bool (idx_all p l), below_next ((Below.refl _ _).alloc (Nat.le_refl _) _) hb2⟩
set_option maxHeartbeats 400000 in
theorem notRw_any (x : Rw) (rb : Nat) (b : Bool) (w : World) (na nb : Nat) (hr : w.cell? ⟨rb, 0, none⟩ = some (.func (.func 106) #[] #[.pointer (some ⟨na, 0, none⟩), .pointer (some ⟨nb, 0, none⟩)]))
    (hf : ∀ W, Below w.heap.size w W → Calls Try.prog 106 #[rwV x, .pointer (some ⟨na, 0, none⟩), .pointer (some ⟨nb, 0, none⟩)] W fun e w' => e = .returned (.bool b) ∧ Below W.heap.size W w') :
    Calls Try.prog 119 #[rwV x, .pointer (some ⟨rb, 0, none⟩)] w fun e w' => e = .returned (.bool (!b)) ∧ Below w.heap.size w w' := by
  have HF := Lib.hid hf
  have hlt := World.block_lt_of_cell? w _ hr
  dsimp only at hlt
  clear hf
  go_enter Try.func119, Try.ntmps119
  go_wp2_with (go_at_call 106; refine (HF.out _ (Below.refl _ _)).mono ?_; rintro e w' ⟨rfl, hb⟩)
  go_ret
  exact ⟨rfl, hb⟩
set_option maxHeartbeats 400000 in
theorem idxRw_any (l : List Rw) (p : Rw → Bool) (cp rb : Nat) (A : Option Addr) (w : World) (hn : l.length ≤ 1000) (hrow : Row rwL 1 w w.heap.size A l)
    (hf : ∀ c ∈ l, ∀ W, Below w.heap.size w W → Calls Try.prog 119 #[rwV c, .pointer (some ⟨rb, 0, none⟩)] W fun e w' => e = .returned (.bool (p c)) ∧ Below W.heap.size W w') :
    Calls Try.prog 125 #[.slice A l.length cp, .func (.func 119) #[] #[.pointer (some ⟨rb, 0, none⟩)]] w fun e w' => e = .returned (.int .i64 (idx p l)) ∧ Below w.heap.size w w' := by
  have HF := Lib.hid hf
  clear hf
  obtain ⟨n, hnl⟩ : ∃ n, n = l.length := ⟨_, rfl⟩
  rw [← hnl] at hn ⊢
  have HN := Lib.hid hnl
  clear hnl
  go_enter Try.func125, Try.ntmps125
  go_wp2
  go_loopw [4, 5, 8] (fun _ _ i wr => ∃ k : Nat, k ≤ n ∧ i = .int .i64 k ∧ Below w.heap.size w wr ∧ early p l k) (fun _ _ i _ => n - (intOf i).toNat)
  case atStart => exact ⟨0, Nat.zero_le _, rfl, Below.refl _ _, early_zero _ _⟩
  case round =>
    obtain ⟨k, hk, rfl, hbw, he⟩ := hrel
    have HE := Lib.hid he
    clear he
    by_cases hlt : k < n
    · obtain ⟨c, hc⟩ := get_of_lt (l := l) (k := k) (by have := HN.out; omega)
      obtain ⟨b, off, rfl, hb, h0⟩ := rowRw (hrow.below hbw) hc
      have HC := Lib.hid hc
      clear hc
      cases hp : p c
      · go_wp2_with (go_at_call 119; refine (HF.out c (List.mem_of_getElem? HC.out) _ hbw).mono ?_; rintro e w' ⟨rfl, hb2⟩)
        go_roundw
        case rel => exact ⟨k + 1, by omega, by go_num, below_next hbw hb2, early_succ HE.out HC.out hp⟩
        case measure => simp [intOf]; omega
      · go_wp2_with (go_at_call 119; refine (HF.out c (List.mem_of_getElem? HC.out) _ hbw).mono ?_; rintro e w' ⟨rfl, hb2⟩)
        go_ret
        exact ⟨ret_int (idx_here p l k c HC.out hp HE.out).symm, below_next hbw hb2⟩
    · go_wp2_with fail
      go_ret
      have hkn : k = l.length := by have := HN.out; omega
      exact ⟨ret_int (idx_none p l (hkn ▸ HE.out)).symm, hbw⟩
set_option maxHeartbeats 400000 in
theorem containsRw_any (l : List Rw) (p : Rw → Bool) (cp rb : Nat) (A : Option Addr) (w : World) (hn : l.length ≤ 1000) (hrow : Row rwL 1 w w.heap.size A l)
    (hf : ∀ c ∈ l, ∀ W, Below w.heap.size w W → Calls Try.prog 119 #[rwV c, .pointer (some ⟨rb, 0, none⟩)] W fun e w' => e = .returned (.bool (p c)) ∧ Below W.heap.size W w') :
    Calls Try.prog 118 #[.slice A l.length cp, .func (.func 119) #[] #[.pointer (some ⟨rb, 0, none⟩)]] w fun e w' => e = .returned (.bool (decide (0 ≤ idx p l))) ∧ Below w.heap.size w w' := by
  have HF := Lib.hid hf
  clear hf
  go_enter Try.func118, Try.ntmps118
  go_wp2_with (go_at_call 125; refine (idxRw_any l p cp rb A _ hn hrow HF.out).mono ?_; rintro e w' ⟨rfl, hb2⟩)
  go_ret
  exact ⟨rfl, hb2⟩
set_option maxHeartbeats 400000 in
theorem allRw_any (l : List Rw) (p : Rw → Bool) (cp : Nat) (A : Option Addr) (w : World) (na nb : Nat) (hn : l.length ≤ 1000) (hrow : Row rwL 1 w w.heap.size A l)
    (hf : ∀ c ∈ l, ∀ W, Below w.heap.size w W → Calls Try.prog 106 #[rwV c, .pointer (some ⟨na, 0, none⟩), .pointer (some ⟨nb, 0, none⟩)] W fun e w' => e = .returned (.bool (p c)) ∧ Below W.heap.size W w') :
    Calls Try.prog 105 #[.slice A l.length cp, .func (.func 106) #[] #[.pointer (some ⟨na, 0, none⟩), .pointer (some ⟨nb, 0, none⟩)]] w fun e w' => e = .returned (.bool (l.all p)) ∧ Below w.heap.size w w' := by
  have hX := containsRw_any l (fun c => !p c) cp w.heap.size A (w.alloc (.cells #[.func (.func 106) #[] #[.pointer (some ⟨na, 0, none⟩), .pointer (some ⟨nb, 0, none⟩)]] 157)) hn (hrow_ok hrow _) (fun c hc W hW => notRw_any c w.heap.size (p c) W na nb (keep_cell (Whole.at (Whole.made w 157 #[.func (.func 106) #[] #[.pointer (some ⟨na, 0, none⟩), .pointer (some ⟨nb, 0, none⟩)]]) 0 rfl) hW) fun W' hW' => hf c hc W' (below_next (below_next ((Below.refl _ _).alloc (Nat.le_refl _) _) hW) hW'))
  have HX := Lib.hid hX
  clear hX hf
  go_enter Try.func105, Try.ntmps105
  go_wp2_with (go_at_call 118; refine (HX.out).mono ?_; rintro e w' ⟨rfl, hb2⟩)
  go_ret
  exact ⟨ret_bool (idx_all p l), below_next ((Below.refl _ _).alloc (Nat.le_refl _) _) hb2⟩
set_option maxHeartbeats 1000000 in
theorem num_any (v : Int) (w : World) : Calls Try.prog 102 #[vi v] w fun e w' => e = .returned (.bool (inB v (-bigN) bigN)) ∧ newer w w' := by
  have HW := Lib.hid (fun W => within_any v (-bigN) bigN W)
  go_enter Try.func102, Try.ntmps102
  go_wp2_with fail
  refine (HW.out _).mono ?_
  rintro e w1 ⟨rfl, rfl⟩
  go_wp2_with fail
  go_ret
  exact ⟨rfl, newer_refl _⟩
set_option maxRecDepth 100000 in
set_option maxHeartbeats 1000000 in
theorem lnShape_any (s : Sm) (f : Int) (t : Option Bool) (x : Ln) (na nb : Nat) (w : World) (hok : SmOk s w) (hs : SdOk s.sd) (hx : Whole w na 115 (lkC s f t)) (hf : Whole w nb 124 #[.func (.func 102) #[] #[]]) (hr : Row intL 1 w w.heap.size x.a x.l) (hl : x.l.length ≤ 1000) : Calls Try.prog 103 #[lnV x, .pointer (some ⟨na, 0, none⟩), .pointer (some ⟨nb, 0, none⟩)] w fun e w' => e = .returned (.bool (shL s.sd.n x.l)) ∧ newer w w' := by
  have hcl := hs.cols
  rw [sd_len] at hcl
  obtain ⟨y, hy⟩ := get_of_lt (l := s.cs) (k := 0) (by omega)
  have hyn : y.beds.length = s.sd.n := (sd_n hy).symm
  have HB : Hid (∀ W, newer w W → Calls Try.prog 81 #[lkV s f t] W fun e w' => e = .returned (vi s.sd.n) ∧ newer W w') := Lib.hid (fun W hW => by
    have h := beds_any s f t y W (hok.next hW) hy
    rw [hyn] at h
    exact h)
  have l0 := hx.at 0 (v := .slice s.a s.cs.length s.c) rfl
  have l1 := hx.at 1 (v := vi s.least) rfl
  have l2 := hx.at 2 (v := vi f) rfl
  have l3 := hx.at 3 (v := .func (.func (trF t)) #[] #[]) rfl
  have f0 := hf.at 0 (v := .func (.func 102) #[] #[]) rfl
  have HF := Lib.hid hf
  have HAL : Hid (∀ W, newer w W → Calls Try.prog 104 #[.slice x.a x.l.length x.c, .func (.func 102) #[] #[]] W fun e w' => e = .returned (.bool (x.l.all fun v => inB v (-bigN) bigN)) ∧ newer W w') := Lib.hid (fun W hW => allIn_any x.l (fun v => inB v (-bigN) bigN) x.c x.a W hl ((hr.below hW).more hW.size) (fun v _ W' _ => num_any v W'))
  unfold shL
  obtain ⟨n, hn⟩ : ∃ n, n = s.sd.n := ⟨_, rfl⟩
  rw [← hn] at HB ⊢
  obtain ⟨q, hq⟩ : ∃ q, q = x.l.all (fun v => inB v (-bigN) bigN) := ⟨_, rfl⟩
  rw [← hq] at HAL ⊢
  obtain ⟨m, hm⟩ : ∃ m, m = x.l.length := ⟨_, rfl⟩
  rw [← hm] at HAL ⊢
  simp only [lnV]
  rw [← hm]
  clear hok hs hcl hy hyn hx hf hr hl hn hq hm
  by_cases he : m = n
  · have h1 : ((m : Int) == (n : Int)) = true := by rw [he]; simp
    have HE := Lib.hid (decide_eq_true he)
    clear he
    go_enter Try.func103, Try.ntmps103
    go_wp2_with fail
    refine (HB.out _ (newer_refl _)).mono ?_
    rintro e w1 ⟨rfl, hb⟩
    have f0 := keep_cell f0 hb
    have HN := Lib.hid hb
    clear hb l0 l1 l2 l3
    go_wp2_with fail
    refine (HAL.out _ HN.out).mono ?_
    rintro e w2 ⟨rfl, hb⟩
    have HN2 := Lib.hid (newer_trans HN.out hb)
    clear hb
    go_wp2_with fail
    go_ret
    exact ⟨by rw [HE.out] <;> rfl, HN2.out⟩
  · have h1 : ((m : Int) == (n : Int)) = false := by rw [beq_eq_false_iff_ne]; omega
    have HE := Lib.hid (decide_eq_false he)
    clear he
    go_enter Try.func103, Try.ntmps103
    go_wp2_with fail
    refine (HB.out _ (newer_refl _)).mono ?_
    rintro e w1 ⟨rfl, hb⟩
    have HN := Lib.hid hb
    clear hb l0 l1 l2 l3
    go_wp2_with fail
    go_ret
    exact ⟨by rw [HE.out] <;> rfl, HN.out⟩
set_option maxRecDepth 100000 in
set_option maxHeartbeats 1000000 in
theorem rwShape_any (s : Sm) (f : Int) (t : Option Bool) (x : Rw) (na nb nc : Nat) (w : World) (hok : SmOk s w) (hs : SdOk s.sd) (hx : Whole w na 115 (lkC s f t)) (hf : Whole w nc 124 #[.func (.func 102) #[] #[]]) (hg : Whole w nb 154 #[.func (.func 103) #[] #[.pointer (some ⟨na, 0, none⟩), .pointer (some ⟨nc, 0, none⟩)]]) (hr : Row lnL 1 w w.heap.size x.a x.ls) (hri : ∀ y ∈ x.ls, Row intL 1 w w.heap.size y.a y.l) (hl : x.ls.length ≤ 1000) (hll : ∀ y ∈ x.ls, y.l.length ≤ 1000) : Calls Try.prog 106 #[rwV x, .pointer (some ⟨na, 0, none⟩), .pointer (some ⟨nb, 0, none⟩)] w fun e w' => e = .returned (.bool (shR s.sd.n s.cs.length x.d)) ∧ newer w w' := by
  have l0 := hx.at 0 (v := .slice s.a s.cs.length s.c) rfl
  have l1 := hx.at 1 (v := vi s.least) rfl
  have l2 := hx.at 2 (v := vi f) rfl
  have l3 := hx.at 3 (v := .func (.func (trF t)) #[] #[]) rfl
  have g0 := hg.at 0 (v := .func (.func 103) #[] #[.pointer (some ⟨na, 0, none⟩), .pointer (some ⟨nc, 0, none⟩)]) rfl
  have HAL := Lib.hid (allLn_any x.ls (fun y => shL s.sd.n y.l) x.c x.a w na nc hl hr (fun y hy W hW => lnShape_any s f t y na nc W (hok.next hW) hs (hx.below hW hx.lt) (hf.below hW hf.lt) (((hri y hy).below hW).more hW.size) (hll y hy)))
  unfold shR Rw.d
  rw [List.length_map, List.all_map, show (shL s.sd.n ∘ fun y : Ln => y.l) = fun y : Ln => shL s.sd.n y.l from rfl]
  obtain ⟨q, hq⟩ : ∃ q, q = x.ls.all (fun y => shL s.sd.n y.l) := ⟨_, rfl⟩
  rw [← hq] at HAL ⊢
  obtain ⟨m, hm⟩ : ∃ m, m = x.ls.length := ⟨_, rfl⟩
  rw [← hm] at HAL ⊢
  obtain ⟨n, hn⟩ : ∃ n, n = s.cs.length := ⟨_, rfl⟩
  simp only [rwV]
  rw [← hm]
  rw [← hn] at l0 ⊢
  clear hok hs hx hf hg hr hri hl hll hq hm hn
  by_cases he : m = n
  · have h1 : ((m : Int) == (n : Int)) = true := by rw [he]; simp
    have HE := Lib.hid (decide_eq_true he)
    clear he
    go_enter Try.func106, Try.ntmps106
    go_wp2_with fail
    refine (HAL.out).mono ?_
    rintro e w2 ⟨rfl, hb⟩
    have HN2 := Lib.hid hb
    clear hb
    go_wp2_with fail
    go_ret
    exact ⟨by rw [HE.out] <;> rfl, HN2.out⟩
  · have h1 : ((m : Int) == (n : Int)) = false := by rw [beq_eq_false_iff_ne]; omega
    have HE := Lib.hid (decide_eq_false he)
    clear he
    go_enter Try.func106, Try.ntmps106
    go_wp2_with fail
    go_ret
    exact ⟨by rw [HE.out] <;> rfl, newer_refl _⟩
set_option maxRecDepth 100000 in
set_option maxHeartbeats 1000000 in
theorem shaped_any (s : Sm) (f : Int) (t : Option Bool) (ts : List Rw) (A : Option Addr) (c : Nat) (w : World) (hok : SmOk s w) (hs : SdOk s.sd) (ht : TbOk ts A w) (few : TbFew ts) : Calls Try.prog 85 #[lkV s f t, .slice A ts.length c] w fun e w' => e = .returned (.bool (shT s.sd.n s.cs.length s.least (ts.map Rw.d))) ∧ newer w w' := by
  have HF : Hid (newer w (((w.alloc (.cells (lkC s f t) 115)).alloc (.cells #[.func (.func 102) #[] #[]] 124)).alloc (.cells #[.func (.func 103) #[] #[.pointer (some ⟨w.heap.size, 0, none⟩), .pointer (some ⟨w.heap.size + 1, 0, none⟩)]] 154)) ∧ Whole (((w.alloc (.cells (lkC s f t) 115)).alloc (.cells #[.func (.func 102) #[] #[]] 124)).alloc (.cells #[.func (.func 103) #[] #[.pointer (some ⟨w.heap.size, 0, none⟩), .pointer (some ⟨w.heap.size + 1, 0, none⟩)]] 154)) w.heap.size 115 (lkC s f t) ∧ Whole (((w.alloc (.cells (lkC s f t) 115)).alloc (.cells #[.func (.func 102) #[] #[]] 124)).alloc (.cells #[.func (.func 103) #[] #[.pointer (some ⟨w.heap.size, 0, none⟩), .pointer (some ⟨w.heap.size + 1, 0, none⟩)]] 154)) (w.heap.size + 1) 124 #[.func (.func 102) #[] #[]] ∧ Whole (((w.alloc (.cells (lkC s f t) 115)).alloc (.cells #[.func (.func 102) #[] #[]] 124)).alloc (.cells #[.func (.func 103) #[] #[.pointer (some ⟨w.heap.size, 0, none⟩), .pointer (some ⟨w.heap.size + 1, 0, none⟩)]] 154)) (w.heap.size + 1 + 1) 154 #[.func (.func 103) #[] #[.pointer (some ⟨w.heap.size, 0, none⟩), .pointer (some ⟨w.heap.size + 1, 0, none⟩)]]) := Lib.hid (by
    have e1 := newer_allocH w (.cells (lkC s f t) 115)
    have e2 := newer_allocH (w.alloc (.cells (lkC s f t) 115)) (.cells #[.func (.func 102) #[] #[]] 124)
    have e3 := newer_allocH ((w.alloc (.cells (lkC s f t) 115)).alloc (.cells #[.func (.func 102) #[] #[]] 124)) (.cells #[.func (.func 103) #[] #[.pointer (some ⟨w.heap.size, 0, none⟩), .pointer (some ⟨w.heap.size + 1, 0, none⟩)]] 154)
    have a1 := Whole.made w 115 (lkC s f t)
    have a2 := Whole.made (w.alloc (.cells (lkC s f t) 115)) 124 #[.func (.func 102) #[] #[]]
    have a3 := Whole.made ((w.alloc (.cells (lkC s f t) 115)).alloc (.cells #[.func (.func 102) #[] #[]] 124)) 154 #[.func (.func 103) #[] #[.pointer (some ⟨w.heap.size, 0, none⟩), .pointer (some ⟨w.heap.size + 1, 0, none⟩)]]
    rw [World.size_alloc] at a2
    rw [World.size_alloc, World.size_alloc] at a3
    exact ⟨newer_trans (newer_trans e1 e2) e3, (a1.below e2 a1.lt).below e3 (by simp; omega), a2.below e3 a2.lt, a3⟩)
  have HAL : Hid (∀ W, newer w W → Whole W w.heap.size 115 (lkC s f t) → Whole W (w.heap.size + 1) 124 #[.func (.func 102) #[] #[]] → Whole W (w.heap.size + 1 + 1) 154 #[.func (.func 103) #[] #[.pointer (some ⟨w.heap.size, 0, none⟩), .pointer (some ⟨w.heap.size + 1, 0, none⟩)]] → Calls Try.prog 105 #[.slice A ts.length c, .func (.func 106) #[] #[.pointer (some ⟨w.heap.size, 0, none⟩), .pointer (some ⟨w.heap.size + 1 + 1, 0, none⟩)]] W fun e w' => e = .returned (.bool (ts.all fun r => shR s.sd.n s.cs.length r.d)) ∧ newer W w') := Lib.hid (fun W hW g1 g2 g3 => allRw_any ts (fun r => shR s.sd.n s.cs.length r.d) c A W w.heap.size (w.heap.size + 1 + 1) few.rows ((ht.next hW).rows) (fun r hr W' hW' => rwShape_any s f t r w.heap.size (w.heap.size + 1 + 1) (w.heap.size + 1) W' ((hok.next hW).next hW') hs (g1.below hW' g1.lt) (g2.below hW' g2.lt) (g3.below hW' g3.lt) (((ht.next hW).next hW').lss r hr) (((ht.next hW).next hW').nums r hr) (few.lss r hr) (few.nums r hr)))
  obtain ⟨w1, hw1⟩ : ∃ x, x = (((w.alloc (.cells (lkC s f t) 115)).alloc (.cells #[.func (.func 102) #[] #[]] 124)).alloc (.cells #[.func (.func 103) #[] #[.pointer (some ⟨w.heap.size, 0, none⟩), .pointer (some ⟨w.heap.size + 1, 0, none⟩)]] 154)) := ⟨_, rfl⟩
  rw [← hw1] at HF
  have x1 := HF.out.2.1.at 1 (v := vi s.least) rfl
  rw [hw1] at x1
  unfold shT
  rw [List.length_map, List.all_map, show (shR s.sd.n s.cs.length ∘ Rw.d) = fun r : Rw => shR s.sd.n s.cs.length r.d from rfl]
  obtain ⟨q, hq⟩ : ∃ q, q = ts.all (fun r => shR s.sd.n s.cs.length r.d) := ⟨_, rfl⟩
  rw [← hq] at HAL ⊢
  have HW := Lib.hid hw1
  clear hok hs ht few hq hw1
  by_cases he : (ts.length : Int) = s.least
  · have h1 : ((ts.length : Int) == s.least) = true := by rw [he]; simp
    have HE := Lib.hid (decide_eq_true he)
    clear he
    go_enter Try.func85, Try.ntmps85
    go_wp2_with fail
    rw [← HW.out]
    refine (HAL.out _ HF.out.1 HF.out.2.1 HF.out.2.2.1 HF.out.2.2.2).mono ?_
    rintro e w2 ⟨rfl, hb⟩
    have HN2 := Lib.hid (newer_trans HF.out.1 hb)
    clear hb x1
    go_wp2_with fail
    go_ret
    exact ⟨by rw [HE.out] <;> rfl, HN2.out⟩
  · have h1 : ((ts.length : Int) == s.least) = false := by rw [beq_eq_false_iff_ne]; exact he
    have HE := Lib.hid (decide_eq_false he)
    clear he
    go_enter Try.func85, Try.ntmps85
    go_wp2_with fail
    go_ret
    rw [← HW.out]
    exact ⟨by rw [HE.out] <;> rfl, HF.out.1⟩
end

end Go.Proofs.Ytkenokpobbichaa
