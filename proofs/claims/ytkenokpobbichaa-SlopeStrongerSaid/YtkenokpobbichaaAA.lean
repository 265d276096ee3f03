/- Thin slopes; valid slopes, by the reference. -/
import Derived.Test.YtkenokpobbichaaY
namespace Go.Proofs.Ytkenokpobbichaa
open Go.RowKit Go.Shelf Go.Deep

/-- Is a slope thin? -/
def thinS (s : Sd) : Bool := s.cols.all (fun l => decide (l.length ≤ 8)) && decide (s.cols.length ≤ 15)
theorem thinS_few {s : Sm} (h : thinS s.sd = true) : SmFew s ∧ s.cs.length ≤ 15 ∧ ∀ x ∈ s.cs, x.beds.length ≤ 8 := by
  unfold thinS at h
  rw [Bool.and_eq_true, decide_eq_true_eq, sd_len, sd_all, List.all_eq_true] at h
  have h1 : ∀ x ∈ s.cs, x.beds.length ≤ 8 := fun x hx => by simpa using h.1 x hx
  exact ⟨⟨by omega, fun x hx => by have := h1 x hx; omega⟩, h.2, h1⟩
set_option maxRecDepth 100000 in
set_option maxHeartbeats 2000000 in
theorem lawThin (s : Sm) (w : World) (hok : SmOk s w) : Calls Try.prog 16 #[smV s] w fun e w' => e = .returned (.bool (thinS s.sd)) ∧ newer w w' := by
  have H0 := Lib.hid (And.intro (newer_allocH w (.cells (smC s) 24)) (Whole.made w 24 (smC s)))
  have HOK := Lib.hid hok
  have hf1 : ∀ x ∈ s.cs, ¬ x.beds.length ≤ 8 → thinS s.sd = false := fun x hx h => by
    unfold thinS
    have : s.sd.cols.all (fun l => decide (l.length ≤ 8)) = false := by
      rw [sd_all, List.all_eq_false]
      exact ⟨x, hx, by simpa using h⟩
    rw [this]
    rfl
  have hf2 : ¬ s.cs.length ≤ 15 → thinS s.sd = false := fun h => by
    unfold thinS
    rw [sd_len, decide_eq_false h, Bool.and_false]
  have ht : s.cs.length ≤ 15 → early (fun x : Cl => !decide (x.beds.length ≤ 8)) s.cs s.cs.length → thinS s.sd = true := fun h1 h2 => by
    unfold thinS
    rw [sd_len, decide_eq_true h1, Bool.and_true, sd_all, List.all_eq_true]
    intro x hx
    obtain ⟨i, hi⟩ := List.mem_iff_getElem?.1 hx
    have h3 := h2 i x (List.getElem?_eq_some_iff.1 hi).1 hi
    simpa using h3
  have HF := Lib.hid (And.intro hf1 (And.intro hf2 ht))
  clear hf1 hf2 ht
  obtain ⟨r, hr⟩ : ∃ r, r = thinS s.sd := ⟨_, rfl⟩
  rw [← hr] at HF ⊢
  clear hr hok
  go_enter Try.func16, Try.ntmps16
  go_wp2_with fail
  go_loopw [3] (fun s3 wr => ∃ k : Nat, k ≤ s.cs.length ∧ k ≤ 16 ∧ s3 = vi k ∧ newer w wr ∧ Whole wr w.heap.size 24 (smC s) ∧ early (fun x : Cl => !decide (x.beds.length ≤ 8)) s.cs k) (fun s3 _ => s.cs.length - (intOf s3).toNat)
  case atStart => exact ⟨0, Nat.zero_le _, by omega, rfl, H0.out.1, H0.out.2, early_zero _ _⟩
  case round =>
    obtain ⟨k, hk, hk16, rfl, hbw, hbx, he⟩ := hrel
    clear H0
    have x0 := hbx.at 0 (v := .slice s.a s.cs.length s.c) rfl
    have HE := Lib.hid (And.intro hbw (And.intro hbx he))
    by_cases hlt : k < s.cs.length
    · by_cases h15 : 15 < k
      · have hrf : r = false := HF.out.2.1 (by omega)
        subst hrf
        clear hbx hbw he
        go_wp2_with fail
        go_ret
        exact ⟨rfl, HE.out.1⟩
      · obtain ⟨x, hx⟩ := get_of_lt hlt
        obtain ⟨b1, o1, ea, _, cx⟩ := rowC (HOK.out.next hbw).cs hx
        have HX := Lib.hid hx
        have HEA := Lib.hid ea
        rw [ea] at x0
        clear hbx hbw he hx ea
        by_cases ha : x.beds.length ≤ 8
        · have HN := Lib.hid (early_succ HE.out.2.2 HX.out (by simp [ha]))
          go_wp2_with fail
          refine ⟨⟨k + 1, by omega, by omega, rfl, HE.out.1, HE.out.2.1, HN.out⟩, ?_⟩
          simp [intOf]
          omega
        · have hrf : r = false := HF.out.1 x (List.mem_of_getElem? HX.out) ha
          subst hrf
          go_wp2_with fail
          go_ret
          exact ⟨rfl, HE.out.1⟩
    · obtain rfl : k = s.cs.length := by omega
      clear hbx hbw he
      by_cases h15 : s.cs.length ≤ 15
      · have hrf : r = true := HF.out.2.2 h15 HE.out.2.2
        subst hrf
        go_wp2_with fail
        go_ret
        exact ⟨ret_bool (decide_eq_true (by omega)), HE.out.1⟩
      · have hrf : r = false := HF.out.2.1 h15
        subst hrf
        go_wp2_with fail
        go_ret
        exact ⟨ret_bool (decide_eq_false (by omega)), HE.out.1⟩
set_option maxHeartbeats 400000 in
theorem refUp_any (r : Rg) (most : Int) (w : World) : Calls Try.prog 68 #[rgV r, vi most] w fun e w' => e = .returned (.bool (rgU r most)) ∧ newer w w' := by
  obtain ⟨lo, hi⟩ := r
  unfold rgU
  dsimp only
  by_cases h1 : 0 ≤ lo
  · by_cases h2 : lo ≤ hi
    · by_cases h3 : hi ≤ most
      all_goals
        (go_enter Try.func68, Try.ntmps68
         go_wp2
         go_ret
         exact ⟨ret_bool (by simp <;> omega), (Below.refl _ _).alloc (Nat.le_refl _) _⟩)
    · go_enter Try.func68, Try.ntmps68
      go_wp2
      go_ret
      exact ⟨ret_bool (by simp <;> omega), (Below.refl _ _).alloc (Nat.le_refl _) _⟩
  · go_enter Try.func68, Try.ntmps68
    go_wp2
    go_ret
    exact ⟨ret_bool (by simp <;> omega), (Below.refl _ _).alloc (Nat.le_refl _) _⟩
/-- Is a column right, beside the first one? -/
def colP (n : Nat) (x : Cl) : Bool := inB x.beds.length 1 5 && decide (x.beds.length = n) && x.beds.all bdB
set_option maxRecDepth 100000 in
set_option maxHeartbeats 2000000 in
theorem right_any (s : Sm) (w : World) (hok : SmOk s w) (few : SmFew s) : Calls Try.prog 26 #[smV s] w fun e w' => e = .returned (.bool (slopeB s.sd)) ∧ newer w w' := by
  have H0 := Lib.hid (And.intro (newer_allocH w (.cells (smC s) 24)) (Whole.made w 24 (smC s)))
  have HOK := Lib.hid hok
  have HFW := Lib.hid few
  have hf1 : inB s.cs.length 1 12 = false → slopeB s.sd = false := fun h => by unfold slopeB; rw [sd_len, h]; rfl
  have hf2 : inB s.least 1 4 = false → slopeB s.sd = false := fun h => by
    unfold slopeB
    rw [show s.sd.least = s.least from rfl, h, Bool.and_false, Bool.false_and]
  have hf3 : ∀ x ∈ s.cs, colP s.sd.n x = false → slopeB s.sd = false := fun x hx h => by
    cases hv : slopeB s.sd with
    | false => rfl
    | true =>
      have hs := sdOk_iff.1 hv
      have hm : x.beds ∈ s.sd.cols := List.mem_map.2 ⟨x, hx, rfl⟩
      have h1 := hs.len _ hm
      have h2 := hs.beds
      have h3 : x.beds.all bdB = true := List.all_eq_true.2 fun b hb => hs.bd _ hm b hb
      unfold colP at h
      rw [h3, decide_eq_true h1, show inB x.beds.length 1 5 = true by simp [inB]; omega] at h
      cases h
  have ht : inB s.cs.length 1 12 = true → inB s.least 1 4 = true → early (fun x => !colP s.sd.n x) s.cs s.cs.length → slopeB s.sd = true := fun h1 h2 h3 => by
    have h4 : ∀ x ∈ s.cs, colP s.sd.n x = true := fun x hx => by
      obtain ⟨i, hi⟩ := List.mem_iff_getElem?.1 hx
      have h5 := h3 i x (List.getElem?_eq_some_iff.1 hi).1 hi
      simpa using h5
    have h6 : 0 < s.cs.length := by simp [inB] at h1; omega
    obtain ⟨x0, hx0⟩ := get_of_lt h6
    have h7 := h4 x0 (List.mem_of_getElem? hx0)
    have h8 := sd_n hx0
    unfold slopeB
    rw [sd_len, h1, show s.sd.least = s.least from rfl, h2, sd_all]
    unfold colP at h7
    rw [Bool.and_eq_true, Bool.and_eq_true] at h7
    rw [h8, h7.1.1, Bool.true_and, Bool.true_and, Bool.true_and, List.all_eq_true, ← h8]
    intro x hx
    have h9 := h4 x hx
    unfold colP at h9
    rw [Bool.and_eq_true, Bool.and_eq_true] at h9
    rw [Bool.and_eq_true]
    exact ⟨h9.1.2, h9.2⟩
  have HF := Lib.hid (And.intro hf1 (And.intro hf2 (And.intro hf3 ht)))
  clear hf1 hf2 hf3 ht
  obtain ⟨r, hr⟩ : ∃ r, r = slopeB s.sd := ⟨_, rfl⟩
  rw [← hr] at HF ⊢
  have x0 := H0.out.2.at 0 (v := .slice s.a s.cs.length s.c) rfl
  have x1 := H0.out.2.at 1 (v := vi s.least) rfl
  have C1 := Lib.hid (fun W => in_any s.cs.length 1 12 W)
  have C2 := Lib.hid (fun W => in_any s.least 1 4 W)
  clear hr hok few
  cases q1 : inB s.cs.length 1 12 with
  | false =>
    have hrf := HF.out.1 q1
    subst hrf
    rw [q1] at C1
    clear q1
    go_enter Try.func26, Try.ntmps26
    go_wp2_with fail
    refine (C1.out _).mono ?_
    rintro e w2 ⟨rfl, rfl⟩
    go_wp2_with fail
    go_ret
    exact ⟨rfl, H0.out.1⟩
  | true =>
    cases q2 : inB s.least 1 4 with
    | false =>
      have hrf := HF.out.2.1 q2
      subst hrf
      rw [q1] at C1
      rw [q2] at C2
      clear q1 q2
      go_enter Try.func26, Try.ntmps26
      go_wp2_with fail
      refine (C1.out _).mono ?_
      rintro e w2 ⟨rfl, rfl⟩
      go_wp2_with fail
      refine (C2.out _).mono ?_
      rintro e w2 ⟨rfl, rfl⟩
      go_wp2_with fail
      go_ret
      exact ⟨rfl, H0.out.1⟩
    | true =>
      have hl1 : 1 ≤ s.cs.length ∧ s.cs.length ≤ 12 := by simp [inB] at q1; omega
      have HT := Lib.hid (HF.out.2.2.2 q1 q2)
      rw [q1] at C1
      rw [q2] at C2
      obtain ⟨y0, hy0⟩ := get_of_lt (l := s.cs) (k := 0) (by omega)
      have hyn : y0.beds.length = s.sd.n := (sd_n hy0).symm
      obtain ⟨b1, o1, ea, _, cy⟩ := rowC (HOK.out.next H0.out.1).cs hy0
      simp only [Nat.add_zero] at cy
      obtain ⟨n, hn⟩ : ∃ n, n = s.sd.n := ⟨_, rfl⟩
      rw [hyn, ← hn] at cy
      rw [← hn] at HF HT
      have hnb : n ≤ 1000 := by have := HFW.out.bd y0 (List.mem_of_getElem? hy0); omega
      have HCY := Lib.hid (And.intro cy ea)
      have hcne : ¬ (s.cs = []) := by intro h; rw [h] at hl1; simp at hl1
      rw [ea] at x0
      clear q1 q2 hy0 hyn hn cy ea
      go_enter Try.func26, Try.ntmps26
      go_wp2_with fail
      refine (C1.out _).mono ?_
      rintro e w2 ⟨rfl, rfl⟩
      go_wp2_with fail
      refine (C2.out _).mono ?_
      rintro e w2 ⟨rfl, rfl⟩
      go_wp2_with fail
      go_loopw [3] (fun s3 wr => ∃ k : Nat, k ≤ s.cs.length ∧ s3 = vi k ∧ newer w wr ∧ Whole wr w.heap.size 24 (smC s) ∧ newer (w.alloc (.cells (smC s) 24)) wr ∧ early (fun x => !colP n x) s.cs k) (fun s3 _ => s.cs.length - (intOf s3).toNat)
      case atStart => exact ⟨0, Nat.zero_le _, rfl, H0.out.1, H0.out.2, Below.refl _ _, early_zero _ _⟩
      case round =>
        obtain ⟨k, hk, rfl, hbw, hbx, hbz, he⟩ := hrel
        clear H0 x0 x1 C1 C2
        have x0 := hbx.at 0 (v := .slice s.a s.cs.length s.c) rfl
        rw [HCY.out.2] at x0
        have cy := keep_cell HCY.out.1 hbz
        have HE := Lib.hid (And.intro hbw (And.intro hbx (And.intro hbz he)))
        clear hbx hbz he
        by_cases hlt : k < s.cs.length
        · obtain ⟨x, hx⟩ := get_of_lt hlt
          obtain ⟨b2, o2, ea, _, cx⟩ := rowC (HOK.out.next hbw).cs hx
          rw [HCY.out.2] at ea
          obtain ⟨rfl, rfl⟩ : b1 = b2 ∧ o1 = o2 := by simpa using ea
          have HX := Lib.hid hx
          have hxl := HFW.out.bd x (List.mem_of_getElem? hx)
          have HXM := Lib.hid (List.mem_of_getElem? hx)
          have hki : (k : Int) < s.cs.length := by omega
          have C3 := Lib.hid (fun W => in_any x.beds.length 1 5 W)
          have hcp : colP n x = (inB x.beds.length 1 5 && decide (x.beds.length = n) && x.beds.all bdB) := rfl
          clear hx ea hbw
          cases q3 : inB x.beds.length 1 5 with
          | false =>
            have hrf := HF.out.2.2.1 x HXM.out (by rw [hcp, q3]; rfl)
            subst hrf
            rw [q3] at C3
            clear q3 hcp
            go_upto_region 6 with fail
            refine wp_words (by kernel_rfl) (region_told_u 21 (by kernel_rfl) (by kernel_rfl) [false, false, false, false, false, false, false, false, false, true, true, true, true, true, true, true, true, true, true, true, true] (fun W => Below wr.heap.size wr W) newer [vIs (.pointer (some ⟨w.heap.size, 0, none⟩)), vIs (.slice (some ⟨b1, o1, none⟩) s.cs.length s.c), vIs (.int .i64 k), vIs (.pointer (some ⟨b1, o1 + k, none⟩)), vIs (.slice x.a x.beds.length x.cp), vIs (.int .i64 x.beds.length), vIs (.bool false), vIs (.bool true), vIs (.bool true), vIs (undef), vIs (undef), vIs (undef), vIs (undef), vIs (undef), vIs (undef), vIs (undef), vIs (undef), vIs (undef), vIs (undef), vIs (undef), vIs (undef)] ⟨rfl, rfl, rfl, rfl, rfl, rfl, rfl, rfl, rfl, (fun v W h => by obtain rfl : v = _ := h; simp), (fun v W h => by obtain rfl : v = _ := h; simp), (fun v W h => by obtain rfl : v = _ := h; simp), (fun v W h => by obtain rfl : v = _ := h; simp), (fun v W h => by obtain rfl : v = _ := h; simp), (fun v W h => by obtain rfl : v = _ := h; simp), (fun v W h => by obtain rfl : v = _ := h; simp), (fun v W h => by obtain rfl : v = _ := h; simp), (fun v W h => by obtain rfl : v = _ := h; simp), (fun v W h => by obtain rfl : v = _ := h; simp), (fun v W h => by obtain rfl : v = _ := h; simp), (fun v W h => by obtain rfl : v = _ := h; simp), trivial⟩ ⟨(fun h => Bool.noConfusion (show false = true from h)), (fun h => Bool.noConfusion (show false = true from h)), (fun h => Bool.noConfusion (show false = true from h)), (fun h => Bool.noConfusion (show false = true from h)), (fun h => Bool.noConfusion (show false = true from h)), (fun h => Bool.noConfusion (show false = true from h)), (fun h => Bool.noConfusion (show false = true from h)), (fun h => Bool.noConfusion (show false = true from h)), (fun h => Bool.noConfusion (show false = true from h)), (fun _ _ => rfl), (fun _ _ => rfl), (fun _ _ => rfl), (fun _ _ => rfl), (fun _ _ => rfl), (fun _ _ => rfl), (fun _ _ => rfl), (fun _ _ => rfl), (fun _ _ => rfl), (fun _ _ => rfl), (fun _ _ => rfl), (fun _ _ => rfl), trivial⟩ (fun h k => newer_trans h k) (pickD_stable _ ⟨vIs_st, vIs_st, vIs_st, vIs_st, vIs_st, vIs_st, vIs_st, vIs_st, vIs_st, vIs_st, vIs_st, vIs_st, vIs_st, vIs_st, vIs_st, vIs_st, vIs_st, vIs_st, vIs_st, vIs_st, vIs_st, trivial⟩) (Below.refl _ wr).drew (Below.refl _ _) ?_ ?_)
            · refine ⟨.inr ?_, .inr ?_, .inr ?_, .inr ?_, .inr ?_, .inr ?_, .inr ?_, .inr ?_, .inr ?_, .inl rfl, .inl rfl, .inl rfl, .inl rfl, .inl rfl, .inl rfl, .inl rfl, .inl rfl, .inl rfl, .inl rfl, .inl rfl, .inl rfl, trivial⟩
              · intro a W hG hR hO hp
                have h1 := hO.slot 1 (by kernel_rfl)
                refine wp_yields (v := .pointer (some ⟨w.heap.size, 0, none⟩)) ?_ ⟨_, rfl, rfl, Below.refl _ _, hG⟩
                simp [slotOf] at h1
                simp [execOp, go_sem, h1]
              · intro a W hG hR hO hp
                have h24 : slotOf a 24 = .pointer (some ⟨w.heap.size, 0, none⟩) := hp.1
                have c0 := keep_cell x0 hG
                refine wp_yields (v := .slice (some ⟨b1, o1, none⟩) s.cs.length s.c) ?_ ⟨_, rfl, rfl, Below.refl _ _, hG⟩
                simp [slotOf] at h24
                simp [execOp, go_sem, h24, c0]
              · intro a W hG hR hO hp
                have h3 := hO.slot 3 (by kernel_rfl)
                refine wp_yields (v := .int .i64 k) ?_ ⟨_, rfl, rfl, Below.refl _ _, hG⟩
                simp [slotOf] at h3
                simp [execOp, go_sem, h3]
              · intro a W hG hR hO hp
                have h25 : slotOf a 25 = .slice (some ⟨b1, o1, none⟩) s.cs.length s.c := hp.1
                have h26 : slotOf a 26 = .int .i64 k := hp.2.1
                refine wp_yields (v := .pointer (some ⟨b1, o1 + k, none⟩)) ?_ ⟨_, rfl, rfl, Below.refl _ _, hG⟩
                simp [slotOf] at h25 h26
                simp [execOp, go_sem, h25, h26, hki]
              · intro a W hG hR hO hp
                have h27 : slotOf a 27 = .pointer (some ⟨b1, o1 + k, none⟩) := hp.1
                have c0 := keep_cell cx hG
                refine wp_yields (v := .slice x.a x.beds.length x.cp) ?_ ⟨_, rfl, rfl, Below.refl _ _, hG⟩
                simp [slotOf] at h27
                simp [execOp, go_sem, h27, c0]
              · intro a W hG hR hO hp
                have h28 : slotOf a 28 = .slice x.a x.beds.length x.cp := hp.1
                refine wp_yields (v := .int .i64 x.beds.length) ?_ ⟨_, rfl, rfl, Below.refl _ _, hG⟩
                simp [slotOf] at h28
                simp [go_sem, h28]
              · intro a W hG hR hO hp
                have h29 : slotOf a 29 = .int .i64 x.beds.length := hp.1
                refine wp_enters (f := 50) (args := #[vi x.beds.length, vi 1, vi 5]) ?_ ((C3.out W).mono ?_)
                · simp [slotOf] at h29
                  simp [go_sem, h29]
                · rintro e w' ⟨rfl, rfl⟩
                  exact ⟨_, rfl, _, rfl, rfl, Below.refl _ _, hG⟩
              · intro a W hG hR hO hp
                have h30 : slotOf a 30 = .bool false := hp.1
                refine wp_yields (v := .bool true) ?_ ⟨_, rfl, rfl, Below.refl _ _, hG⟩
                simp [slotOf] at h30
                simp [execOp, go_sem, h30]
              · intro a W hG hR hO hp
                have h31 : slotOf a 31 = .bool true := hp.1
                refine wp_yields (v := .bool true) ?_ ⟨_, rfl, rfl, Below.refl _ _, hG⟩
                simp [slotOf] at h31
                simp [execOp, go_sem, h31]
            · intro W hG hR
              rintro _ rfl _ rfl _ rfl _ rfl _ rfl _ rfl _ rfl _ rfl _ rfl _ rfl _ rfl _ rfl _ rfl _ rfl _ rfl _ rfl _ rfl _ rfl _ rfl _ rfl _ rfl
              change wpList _ _ _ _ _ _
              simp only [Act.put, List.setIfInBounds_toArray, List.set_cons_zero, List.set_cons_succ, List.drop_succ_cons, List.drop_zero]
              have HE2 := Lib.hid (newer_trans HE.out.1 hG)
              clear hG hR cy cx x0
              go_wp2_with fail
              go_ret
              exact ⟨rfl, HE2.out⟩
          | true =>
            rw [q3] at C3
            by_cases hln : x.beds.length = n
            · have HB := Lib.hid (fun b (hb : b ∈ x.beds) (h : bdB b = false) => HF.out.2.2.1 x HXM.out (by
                rw [hcp, q3, show x.beds.all bdB = false from List.all_eq_false.2 ⟨b, hb, by simp [h]⟩, Bool.and_false]))
              have HBT : Hid (early (fun b => !bdB b) x.beds x.beds.length → colP n x = true) := Lib.hid (fun h => by
                rw [hcp, q3, decide_eq_true hln, Bool.true_and, Bool.true_and, List.all_eq_true]
                intro b hb
                obtain ⟨i, hi⟩ := List.mem_iff_getElem?.1 hb
                have h1 := h i b (List.getElem?_eq_some_iff.1 hi).1 hi
                simpa using h1)
              have hne : ((x.beds.length : Int) != n) = false := by simp [hln]
              clear q3 hcp hln
              go_upto_region 6 with fail
              refine wp_words (by kernel_rfl) (region_told_u 21 (by kernel_rfl) (by kernel_rfl) [false, false, false, false, false, false, false, false, false, false, false, false, false, false, false, false, false, false, false, false, false] (fun W => Below wr.heap.size wr W) newer [vIs (.pointer (some ⟨w.heap.size, 0, none⟩)), vIs (.slice (some ⟨b1, o1, none⟩) s.cs.length s.c), vIs (.int .i64 k), vIs (.pointer (some ⟨b1, o1 + k, none⟩)), vIs (.slice x.a x.beds.length x.cp), vIs (.int .i64 x.beds.length), vIs (.bool true), vIs (.bool false), vIs (.bool false), vIs (.pointer (some ⟨w.heap.size, 0, none⟩)), vIs (.slice (some ⟨b1, o1, none⟩) s.cs.length s.c), vIs (.int .i64 k), vIs (.pointer (some ⟨b1, o1 + k, none⟩)), vIs (.slice x.a x.beds.length x.cp), vIs (.int .i64 x.beds.length), vIs (.pointer (some ⟨w.heap.size, 0, none⟩)), vIs (.slice (some ⟨b1, o1, none⟩) s.cs.length s.c), vIs (.pointer (some ⟨b1, o1, none⟩)), vIs (.slice y0.a n y0.cp), vIs (.int .i64 n), vIs (.bool false)] ⟨rfl, rfl, rfl, rfl, rfl, rfl, rfl, rfl, rfl, (fun v W h => by obtain rfl : v = _ := h; rfl), (fun v W h => by obtain rfl : v = _ := h; rfl), (fun v W h => by obtain rfl : v = _ := h; rfl), (fun v W h => by obtain rfl : v = _ := h; rfl), (fun v W h => by obtain rfl : v = _ := h; rfl), (fun v W h => by obtain rfl : v = _ := h; rfl), (fun v W h => by obtain rfl : v = _ := h; rfl), (fun v W h => by obtain rfl : v = _ := h; rfl), (fun v W h => by obtain rfl : v = _ := h; rfl), (fun v W h => by obtain rfl : v = _ := h; rfl), (fun v W h => by obtain rfl : v = _ := h; rfl), (fun v W h => by obtain rfl : v = _ := h; rfl), trivial⟩ ⟨(fun h => Bool.noConfusion (show false = true from h)), (fun h => Bool.noConfusion (show false = true from h)), (fun h => Bool.noConfusion (show false = true from h)), (fun h => Bool.noConfusion (show false = true from h)), (fun h => Bool.noConfusion (show false = true from h)), (fun h => Bool.noConfusion (show false = true from h)), (fun h => Bool.noConfusion (show false = true from h)), (fun h => Bool.noConfusion (show false = true from h)), (fun h => Bool.noConfusion (show false = true from h)), (fun h => Bool.noConfusion (show false = true from h)), (fun h => Bool.noConfusion (show false = true from h)), (fun h => Bool.noConfusion (show false = true from h)), (fun h => Bool.noConfusion (show false = true from h)), (fun h => Bool.noConfusion (show false = true from h)), (fun h => Bool.noConfusion (show false = true from h)), (fun h => Bool.noConfusion (show false = true from h)), (fun h => Bool.noConfusion (show false = true from h)), (fun h => Bool.noConfusion (show false = true from h)), (fun h => Bool.noConfusion (show false = true from h)), (fun h => Bool.noConfusion (show false = true from h)), (fun h => Bool.noConfusion (show false = true from h)), trivial⟩ (fun h k => newer_trans h k) (pickD_stable _ ⟨vIs_st, vIs_st, vIs_st, vIs_st, vIs_st, vIs_st, vIs_st, vIs_st, vIs_st, vIs_st, vIs_st, vIs_st, vIs_st, vIs_st, vIs_st, vIs_st, vIs_st, vIs_st, vIs_st, vIs_st, vIs_st, trivial⟩) (Below.refl _ wr).drew (Below.refl _ _) ?_ ?_)
              · refine ⟨.inr ?_, .inr ?_, .inr ?_, .inr ?_, .inr ?_, .inr ?_, .inr ?_, .inr ?_, .inr ?_, .inr ?_, .inr ?_, .inr ?_, .inr ?_, .inr ?_, .inr ?_, .inr ?_, .inr ?_, .inr ?_, .inr ?_, .inr ?_, .inr ?_, trivial⟩
                · intro a W hG hR hO hp
                  have h1 := hO.slot 1 (by kernel_rfl)
                  refine wp_yields (v := .pointer (some ⟨w.heap.size, 0, none⟩)) ?_ ⟨_, rfl, rfl, Below.refl _ _, hG⟩
                  simp [slotOf] at h1
                  simp [execOp, go_sem, h1]
                · intro a W hG hR hO hp
                  have h24 : slotOf a 24 = .pointer (some ⟨w.heap.size, 0, none⟩) := hp.1
                  have c0 := keep_cell x0 hG
                  refine wp_yields (v := .slice (some ⟨b1, o1, none⟩) s.cs.length s.c) ?_ ⟨_, rfl, rfl, Below.refl _ _, hG⟩
                  simp [slotOf] at h24
                  simp [execOp, go_sem, h24, c0]
                · intro a W hG hR hO hp
                  have h3 := hO.slot 3 (by kernel_rfl)
                  refine wp_yields (v := .int .i64 k) ?_ ⟨_, rfl, rfl, Below.refl _ _, hG⟩
                  simp [slotOf] at h3
                  simp [execOp, go_sem, h3]
                · intro a W hG hR hO hp
                  have h25 : slotOf a 25 = .slice (some ⟨b1, o1, none⟩) s.cs.length s.c := hp.1
                  have h26 : slotOf a 26 = .int .i64 k := hp.2.1
                  refine wp_yields (v := .pointer (some ⟨b1, o1 + k, none⟩)) ?_ ⟨_, rfl, rfl, Below.refl _ _, hG⟩
                  simp [slotOf] at h25 h26
                  simp [execOp, go_sem, h25, h26, hki]
                · intro a W hG hR hO hp
                  have h27 : slotOf a 27 = .pointer (some ⟨b1, o1 + k, none⟩) := hp.1
                  have c0 := keep_cell cx hG
                  refine wp_yields (v := .slice x.a x.beds.length x.cp) ?_ ⟨_, rfl, rfl, Below.refl _ _, hG⟩
                  simp [slotOf] at h27
                  simp [execOp, go_sem, h27, c0]
                · intro a W hG hR hO hp
                  have h28 : slotOf a 28 = .slice x.a x.beds.length x.cp := hp.1
                  refine wp_yields (v := .int .i64 x.beds.length) ?_ ⟨_, rfl, rfl, Below.refl _ _, hG⟩
                  simp [slotOf] at h28
                  simp [go_sem, h28]
                · intro a W hG hR hO hp
                  have h29 : slotOf a 29 = .int .i64 x.beds.length := hp.1
                  refine wp_enters (f := 50) (args := #[vi x.beds.length, vi 1, vi 5]) ?_ ((C3.out W).mono ?_)
                  · simp [slotOf] at h29
                    simp [go_sem, h29]
                  · rintro e w' ⟨rfl, rfl⟩
                    exact ⟨_, rfl, _, rfl, rfl, Below.refl _ _, hG⟩
                · intro a W hG hR hO hp
                  have h30 : slotOf a 30 = .bool true := hp.1
                  refine wp_yields (v := .bool false) ?_ ⟨_, rfl, rfl, Below.refl _ _, hG⟩
                  simp [slotOf] at h30
                  simp [execOp, go_sem, h30]
                · intro a W hG hR hO hp
                  have h31 : slotOf a 31 = .bool false := hp.1
                  refine wp_yields (v := .bool false) ?_ ⟨_, rfl, rfl, Below.refl _ _, hG⟩
                  simp [slotOf] at h31
                  simp [execOp, go_sem, h31]
                · intro a W hG hR hO hp
                  have h1 := hO.slot 1 (by kernel_rfl)
                  refine wp_yields (v := .pointer (some ⟨w.heap.size, 0, none⟩)) ?_ ⟨_, rfl, rfl, Below.refl _ _, hG⟩
                  simp [slotOf] at h1
                  simp [execOp, go_sem, h1]
                · intro a W hG hR hO hp
                  have h33 : slotOf a 33 = .pointer (some ⟨w.heap.size, 0, none⟩) := hp.1
                  have c0 := keep_cell x0 hG
                  refine wp_yields (v := .slice (some ⟨b1, o1, none⟩) s.cs.length s.c) ?_ ⟨_, rfl, rfl, Below.refl _ _, hG⟩
                  simp [slotOf] at h33
                  simp [execOp, go_sem, h33, c0]
                · intro a W hG hR hO hp
                  have h3 := hO.slot 3 (by kernel_rfl)
                  refine wp_yields (v := .int .i64 k) ?_ ⟨_, rfl, rfl, Below.refl _ _, hG⟩
                  simp [slotOf] at h3
                  simp [execOp, go_sem, h3]
                · intro a W hG hR hO hp
                  have h34 : slotOf a 34 = .slice (some ⟨b1, o1, none⟩) s.cs.length s.c := hp.1
                  have h35 : slotOf a 35 = .int .i64 k := hp.2.1
                  refine wp_yields (v := .pointer (some ⟨b1, o1 + k, none⟩)) ?_ ⟨_, rfl, rfl, Below.refl _ _, hG⟩
                  simp [slotOf] at h34 h35
                  simp [execOp, go_sem, h34, h35, hki]
                · intro a W hG hR hO hp
                  have h36 : slotOf a 36 = .pointer (some ⟨b1, o1 + k, none⟩) := hp.1
                  have c0 := keep_cell cx hG
                  refine wp_yields (v := .slice x.a x.beds.length x.cp) ?_ ⟨_, rfl, rfl, Below.refl _ _, hG⟩
                  simp [slotOf] at h36
                  simp [execOp, go_sem, h36, c0]
                · intro a W hG hR hO hp
                  have h37 : slotOf a 37 = .slice x.a x.beds.length x.cp := hp.1
                  refine wp_yields (v := .int .i64 x.beds.length) ?_ ⟨_, rfl, rfl, Below.refl _ _, hG⟩
                  simp [slotOf] at h37
                  simp [go_sem, h37]
                · intro a W hG hR hO hp
                  have h1 := hO.slot 1 (by kernel_rfl)
                  refine wp_yields (v := .pointer (some ⟨w.heap.size, 0, none⟩)) ?_ ⟨_, rfl, rfl, Below.refl _ _, hG⟩
                  simp [slotOf] at h1
                  simp [execOp, go_sem, h1]
                · intro a W hG hR hO hp
                  have h39 : slotOf a 39 = .pointer (some ⟨w.heap.size, 0, none⟩) := hp.1
                  have c0 := keep_cell x0 hG
                  refine wp_yields (v := .slice (some ⟨b1, o1, none⟩) s.cs.length s.c) ?_ ⟨_, rfl, rfl, Below.refl _ _, hG⟩
                  simp [slotOf] at h39
                  simp [execOp, go_sem, h39, c0]
                · intro a W hG hR hO hp
                  have h40 : slotOf a 40 = .slice (some ⟨b1, o1, none⟩) s.cs.length s.c := hp.1
                  refine wp_yields (v := .pointer (some ⟨b1, o1, none⟩)) ?_ ⟨_, rfl, rfl, Below.refl _ _, hG⟩
                  simp [slotOf] at h40
                  simp [execOp, go_sem, h40, hcne]
                · intro a W hG hR hO hp
                  have h41 : slotOf a 41 = .pointer (some ⟨b1, o1, none⟩) := hp.1
                  have c0 := keep_cell cy hG
                  refine wp_yields (v := .slice y0.a n y0.cp) ?_ ⟨_, rfl, rfl, Below.refl _ _, hG⟩
                  simp [slotOf] at h41
                  simp [execOp, go_sem, h41, c0]
                · intro a W hG hR hO hp
                  have h42 : slotOf a 42 = .slice y0.a n y0.cp := hp.1
                  refine wp_yields (v := .int .i64 n) ?_ ⟨_, rfl, rfl, Below.refl _ _, hG⟩
                  simp [slotOf] at h42
                  simp [go_sem, h42]
                · intro a W hG hR hO hp
                  have h38 : slotOf a 38 = .int .i64 x.beds.length := hp.1
                  have h43 : slotOf a 43 = .int .i64 n := hp.2.1
                  refine wp_yields (v := .bool false) ?_ ⟨_, rfl, rfl, Below.refl _ _, hG⟩
                  simp [slotOf] at h38 h43
                  simp [execOp, go_sem, h38, h43, hne]
              · intro W hG hR
                rintro _ rfl _ rfl _ rfl _ rfl _ rfl _ rfl _ rfl _ rfl _ rfl _ rfl _ rfl _ rfl _ rfl _ rfl _ rfl _ rfl _ rfl _ rfl _ rfl _ rfl _ rfl
                change wpList _ _ _ _ _ _
                simp only [Act.put, List.setIfInBounds_toArray, List.set_cons_zero, List.set_cons_succ, List.drop_succ_cons, List.drop_zero]
                have HE2 := Lib.hid (And.intro (newer_trans HE.out.1 hG) (And.intro (HE.out.2.1.below hG HE.out.2.1.lt) (newer_trans HE.out.2.2.1 hG)))
                clear hG hR cy cx x0 hne
                go_wp2_with fail
                go_loopw [4] (fun s4 wr => ∃ j : Nat, j ≤ x.beds.length ∧ s4 = vi j ∧ newer w wr ∧ Whole wr w.heap.size 24 (smC s) ∧ newer (w.alloc (.cells (smC s) 24)) wr ∧ early (fun b => !bdB b) x.beds j) (fun s4 _ => x.beds.length - (intOf s4).toNat)
                case atStart => exact ⟨0, Nat.zero_le _, rfl, HE2.out.1, HE2.out.2.1, HE2.out.2.2, early_zero _ _⟩
                case round =>
                  obtain ⟨j, hj, rfl, hbw, hbx, hbz, he⟩ := hrel
                  have x0 := hbx.at 0 (v := .slice s.a s.cs.length s.c) rfl
                  rw [HCY.out.2] at x0
                  have HE3 := Lib.hid (And.intro hbw (And.intro hbx (And.intro hbz he)))
                  obtain ⟨b3, o3, ea, _, cx⟩ := rowC (HOK.out.next hbw).cs HX.out
                  rw [HCY.out.2] at ea
                  obtain ⟨rfl, rfl⟩ : b1 = b3 ∧ o1 = o3 := by simpa using ea
                  clear HE2 ea hbx hbz he
                  by_cases hlt2 : j < x.beds.length
                  · obtain ⟨b, hb⟩ := get_of_lt hlt2
                    obtain ⟨b4, o4, e4, _, d0, d1, d2, d3, d4, d5, d6, d7⟩ := row8 ((HOK.out.next hbw).bd x HXM.out) hb
                    rw [e4] at cx
                    have hji : (j : Int) < x.beds.length := by omega
                    have HBM := Lib.hid (And.intro hb (List.mem_of_getElem? hb))
                    have D1 := Lib.hid (fun W => in_any b.drive (-100000) 100000 W)
                    have D2 := Lib.hid (fun W => in_any b.normal 0 100000 W)
                    have D3 := Lib.hid (fun W => refUp_any b.fr 2000 W)
                    have D4 := Lib.hid (fun W => refUp_any b.co 100000 W)
                    have D5 := Lib.hid (fun W => refUp_any b.wa 100000 W)
                    have hbd : bdB b = (inB b.drive (-100000) 100000 && inB b.normal 0 100000 && rgU b.fr 2000 && rgU b.co 100000 && rgU b.wa 100000) := rfl
                    have e5 := newer_allocH wr (.cells (bdC b) 69)
                    have HE4 := Lib.hid (And.intro (newer_trans HE3.out.1 e5) (And.intro (HE3.out.2.1.below e5 HE3.out.2.1.lt) (And.intro (newer_trans HE3.out.2.2.1 e5) (Whole.made wr 69 (bdC b)))))
                    clear hb hbw e4 e5
                    go_upto_region 12 with fail
                    refine genQ (fun X => newer w X ∧ Whole X w.heap.size 24 (smC s) ∧ newer (w.alloc (.cells (smC s) 24)) X ∧ Whole X wr.heap.size 69 (bdC b)) HE4.out ?_
                    clear HE4 d0 d1 d2 d3 d4 d5 d6 d7 cx x0
                    obtain ⟨bb, hbb⟩ : ∃ bb, bb = wr.heap.size := ⟨_, rfl⟩
                    rw [← hbb]
                    rintro w5 ⟨p1, p2, p3, p4⟩
                    have z0 := p4.at 0 (v := vi b.drive) rfl
                    have z1 := p4.at 1 (v := vi b.normal) rfl
                    have z2 := p4.at 2 (v := vi b.fr.lo) rfl
                    have z3 := p4.at 3 (v := vi b.fr.hi) rfl
                    have z4 := p4.at 4 (v := vi b.co.lo) rfl
                    have z5 := p4.at 5 (v := vi b.co.hi) rfl
                    have z6 := p4.at 6 (v := vi b.wa.lo) rfl
                    have z7 := p4.at 7 (v := vi b.wa.hi) rfl
                    have HE5 := Lib.hid (And.intro p1 (And.intro p2 p3))
                    clear p1 p2 p3 p4 hbb
                    cases t1 : inB b.drive (-100000) 100000 with
                    | false =>
                      rw [t1] at D1
                      have hrf := HB.out b HBM.out.2 (by rw [hbd, t1]; simp)
                      subst hrf
                      clear t1 hbd
                      go_wp2_with fail
                      refine (D1.out _).mono ?_
                      rintro e w6 ⟨rfl, rfl⟩
                      go_wp2_with fail
                      go_ret
                      exact ⟨rfl, HE5.out.1⟩
                    | true =>
                      rw [t1] at D1
                      cases t2 : inB b.normal 0 100000 with
                      | false =>
                        rw [t2] at D2
                        have hrf := HB.out b HBM.out.2 (by rw [hbd, t1, t2]; simp)
                        subst hrf
                        clear t1 t2 hbd
                        go_wp2_with fail
                        refine (D1.out _).mono ?_
                        rintro e w6 ⟨rfl, rfl⟩
                        go_wp2_with fail
                        refine (D2.out _).mono ?_
                        rintro e w6 ⟨rfl, rfl⟩
                        go_wp2_with fail
                        go_ret
                        exact ⟨rfl, HE5.out.1⟩
                      | true =>
                        rw [t2] at D2
                        cases t3 : rgU b.fr 2000 with
                        | false =>
                          rw [t3] at D3
                          have hrf := HB.out b HBM.out.2 (by rw [hbd, t1, t2, t3]; simp)
                          subst hrf
                          clear t1 t2 t3 hbd
                          go_wp2_with fail
                          refine (D1.out _).mono ?_
                          rintro e w6 ⟨rfl, rfl⟩
                          go_wp2_with fail
                          refine (D2.out _).mono ?_
                          rintro e w6 ⟨rfl, rfl⟩
                          go_wp2_with fail
                          refine (D3.out _).mono ?_
                          rintro e v3 ⟨rfl, hb⟩
                          have HF3 := Lib.hid (And.intro (And.intro (newer_trans HE5.out.1 hb) (And.intro (HE5.out.2.1.below hb HE5.out.2.1.lt) (newer_trans HE5.out.2.2 hb))) hb)
                          clear hb
                          have y4_3 := keep_cell z4 HF3.out.2
                          have y5_3 := keep_cell z5 HF3.out.2
                          have y6_3 := keep_cell z6 HF3.out.2
                          have y7_3 := keep_cell z7 HF3.out.2
                          go_wp2_with fail
                          go_ret
                          exact ⟨rfl, HF3.out.1.1⟩
                        | true =>
                          rw [t3] at D3
                          cases t4 : rgU b.co 100000 with
                          | false =>
                            rw [t4] at D4
                            have hrf := HB.out b HBM.out.2 (by rw [hbd, t1, t2, t3, t4]; simp)
                            subst hrf
                            clear t1 t2 t3 t4 hbd
                            go_wp2_with fail
                            refine (D1.out _).mono ?_
                            rintro e w6 ⟨rfl, rfl⟩
                            go_wp2_with fail
                            refine (D2.out _).mono ?_
                            rintro e w6 ⟨rfl, rfl⟩
                            go_wp2_with fail
                            refine (D3.out _).mono ?_
                            rintro e v3 ⟨rfl, hb⟩
                            have HF3 := Lib.hid (And.intro (And.intro (newer_trans HE5.out.1 hb) (And.intro (HE5.out.2.1.below hb HE5.out.2.1.lt) (newer_trans HE5.out.2.2 hb))) hb)
                            clear hb
                            have y4_3 := keep_cell z4 HF3.out.2
                            have y5_3 := keep_cell z5 HF3.out.2
                            have y6_3 := keep_cell z6 HF3.out.2
                            have y7_3 := keep_cell z7 HF3.out.2
                            go_wp2_with fail
                            refine (D4.out _).mono ?_
                            rintro e v4 ⟨rfl, hb⟩
                            have HF4 := Lib.hid (And.intro (And.intro (newer_trans HF3.out.1.1 hb) (And.intro (HF3.out.1.2.1.below hb HF3.out.1.2.1.lt) (newer_trans HF3.out.1.2.2 hb))) (newer_trans HF3.out.2 hb))
                            clear hb
                            have y6_4 := keep_cell z6 HF4.out.2
                            have y7_4 := keep_cell z7 HF4.out.2
                            go_wp2_with fail
                            go_ret
                            exact ⟨rfl, HF4.out.1.1⟩
                          | true =>
                            rw [t4] at D4
                            cases t5 : rgU b.wa 100000 with
                            | false =>
                              rw [t5] at D5
                              have hrf := HB.out b HBM.out.2 (by rw [hbd, t1, t2, t3, t4, t5]; simp)
                              subst hrf
                              clear t1 t2 t3 t4 t5 hbd
                              go_wp2_with fail
                              refine (D1.out _).mono ?_
                              rintro e w6 ⟨rfl, rfl⟩
                              go_wp2_with fail
                              refine (D2.out _).mono ?_
                              rintro e w6 ⟨rfl, rfl⟩
                              go_wp2_with fail
                              refine (D3.out _).mono ?_
                              rintro e v3 ⟨rfl, hb⟩
                              have HF3 := Lib.hid (And.intro (And.intro (newer_trans HE5.out.1 hb) (And.intro (HE5.out.2.1.below hb HE5.out.2.1.lt) (newer_trans HE5.out.2.2 hb))) hb)
                              clear hb
                              have y4_3 := keep_cell z4 HF3.out.2
                              have y5_3 := keep_cell z5 HF3.out.2
                              have y6_3 := keep_cell z6 HF3.out.2
                              have y7_3 := keep_cell z7 HF3.out.2
                              go_wp2_with fail
                              refine (D4.out _).mono ?_
                              rintro e v4 ⟨rfl, hb⟩
                              have HF4 := Lib.hid (And.intro (And.intro (newer_trans HF3.out.1.1 hb) (And.intro (HF3.out.1.2.1.below hb HF3.out.1.2.1.lt) (newer_trans HF3.out.1.2.2 hb))) (newer_trans HF3.out.2 hb))
                              clear hb
                              have y6_4 := keep_cell z6 HF4.out.2
                              have y7_4 := keep_cell z7 HF4.out.2
                              go_wp2_with fail
                              refine (D5.out _).mono ?_
                              rintro e v5 ⟨rfl, hb⟩
                              have HF5 := Lib.hid (And.intro (And.intro (newer_trans HF4.out.1.1 hb) (And.intro (HF4.out.1.2.1.below hb HF4.out.1.2.1.lt) (newer_trans HF4.out.1.2.2 hb))) (newer_trans HF4.out.2 hb))
                              clear hb
                              go_wp2_with fail
                              go_ret
                              exact ⟨rfl, HF5.out.1.1⟩
                            | true =>
                              rw [t5] at D5
                              have HN := Lib.hid (early_succ HE3.out.2.2.2 HBM.out.1 (show (!bdB b) = false by rw [hbd, t1, t2, t3, t4, t5]; rfl))
                              clear t1 t2 t3 t4 t5 hbd
                              go_wp2_with fail
                              refine (D1.out _).mono ?_
                              rintro e w6 ⟨rfl, rfl⟩
                              go_wp2_with fail
                              refine (D2.out _).mono ?_
                              rintro e w6 ⟨rfl, rfl⟩
                              go_wp2_with fail
                              refine (D3.out _).mono ?_
                              rintro e v3 ⟨rfl, hb⟩
                              have HF3 := Lib.hid (And.intro (And.intro (newer_trans HE5.out.1 hb) (And.intro (HE5.out.2.1.below hb HE5.out.2.1.lt) (newer_trans HE5.out.2.2 hb))) hb)
                              clear hb
                              have y4_3 := keep_cell z4 HF3.out.2
                              have y5_3 := keep_cell z5 HF3.out.2
                              have y6_3 := keep_cell z6 HF3.out.2
                              have y7_3 := keep_cell z7 HF3.out.2
                              go_wp2_with fail
                              refine (D4.out _).mono ?_
                              rintro e v4 ⟨rfl, hb⟩
                              have HF4 := Lib.hid (And.intro (And.intro (newer_trans HF3.out.1.1 hb) (And.intro (HF3.out.1.2.1.below hb HF3.out.1.2.1.lt) (newer_trans HF3.out.1.2.2 hb))) (newer_trans HF3.out.2 hb))
                              clear hb
                              have y6_4 := keep_cell z6 HF4.out.2
                              have y7_4 := keep_cell z7 HF4.out.2
                              go_wp2_with fail
                              refine (D5.out _).mono ?_
                              rintro e v5 ⟨rfl, hb⟩
                              have HF5 := Lib.hid (And.intro (And.intro (newer_trans HF4.out.1.1 hb) (And.intro (HF4.out.1.2.1.below hb HF4.out.1.2.1.lt) (newer_trans HF4.out.1.2.2 hb))) (newer_trans HF4.out.2 hb))
                              clear hb
                              go_wp2_with fail
                              refine ⟨⟨j + 1, by omega, rfl, HF5.out.1.1, HF5.out.1.2.1, HF5.out.1.2.2, HN.out⟩, ?_⟩
                              simp [intOf]
                              omega
                  · obtain rfl : j = x.beds.length := by omega
                    have HC := Lib.hid (early_succ HE.out.2.2.2 HX.out (by rw [HBT.out HE3.out.2.2.2]; rfl))
                    go_wp2_with fail
                    refine ⟨⟨k + 1, by omega, rfl, HE3.out.1, HE3.out.2.1, HE3.out.2.2.1, HC.out⟩, ?_⟩
                    simp [intOf]
                    omega
            · have hne : ((x.beds.length : Int) != n) = true := by simp; omega
              have hrf := HF.out.2.2.1 x HXM.out (by rw [hcp, q3, decide_eq_false hln]; rfl)
              subst hrf
              clear q3 hcp
              go_upto_region 6 with fail
              refine wp_words (by kernel_rfl) (region_told_u 21 (by kernel_rfl) (by kernel_rfl) [false, false, false, false, false, false, false, false, false, false, false, false, false, false, false, false, false, false, false, false, false] (fun W => Below wr.heap.size wr W) newer [vIs (.pointer (some ⟨w.heap.size, 0, none⟩)), vIs (.slice (some ⟨b1, o1, none⟩) s.cs.length s.c), vIs (.int .i64 k), vIs (.pointer (some ⟨b1, o1 + k, none⟩)), vIs (.slice x.a x.beds.length x.cp), vIs (.int .i64 x.beds.length), vIs (.bool true), vIs (.bool false), vIs (.bool false), vIs (.pointer (some ⟨w.heap.size, 0, none⟩)), vIs (.slice (some ⟨b1, o1, none⟩) s.cs.length s.c), vIs (.int .i64 k), vIs (.pointer (some ⟨b1, o1 + k, none⟩)), vIs (.slice x.a x.beds.length x.cp), vIs (.int .i64 x.beds.length), vIs (.pointer (some ⟨w.heap.size, 0, none⟩)), vIs (.slice (some ⟨b1, o1, none⟩) s.cs.length s.c), vIs (.pointer (some ⟨b1, o1, none⟩)), vIs (.slice y0.a n y0.cp), vIs (.int .i64 n), vIs (.bool true)] ⟨rfl, rfl, rfl, rfl, rfl, rfl, rfl, rfl, rfl, (fun v W h => by obtain rfl : v = _ := h; rfl), (fun v W h => by obtain rfl : v = _ := h; rfl), (fun v W h => by obtain rfl : v = _ := h; rfl), (fun v W h => by obtain rfl : v = _ := h; rfl), (fun v W h => by obtain rfl : v = _ := h; rfl), (fun v W h => by obtain rfl : v = _ := h; rfl), (fun v W h => by obtain rfl : v = _ := h; rfl), (fun v W h => by obtain rfl : v = _ := h; rfl), (fun v W h => by obtain rfl : v = _ := h; rfl), (fun v W h => by obtain rfl : v = _ := h; rfl), (fun v W h => by obtain rfl : v = _ := h; rfl), (fun v W h => by obtain rfl : v = _ := h; rfl), trivial⟩ ⟨(fun h => Bool.noConfusion (show false = true from h)), (fun h => Bool.noConfusion (show false = true from h)), (fun h => Bool.noConfusion (show false = true from h)), (fun h => Bool.noConfusion (show false = true from h)), (fun h => Bool.noConfusion (show false = true from h)), (fun h => Bool.noConfusion (show false = true from h)), (fun h => Bool.noConfusion (show false = true from h)), (fun h => Bool.noConfusion (show false = true from h)), (fun h => Bool.noConfusion (show false = true from h)), (fun h => Bool.noConfusion (show false = true from h)), (fun h => Bool.noConfusion (show false = true from h)), (fun h => Bool.noConfusion (show false = true from h)), (fun h => Bool.noConfusion (show false = true from h)), (fun h => Bool.noConfusion (show false = true from h)), (fun h => Bool.noConfusion (show false = true from h)), (fun h => Bool.noConfusion (show false = true from h)), (fun h => Bool.noConfusion (show false = true from h)), (fun h => Bool.noConfusion (show false = true from h)), (fun h => Bool.noConfusion (show false = true from h)), (fun h => Bool.noConfusion (show false = true from h)), (fun h => Bool.noConfusion (show false = true from h)), trivial⟩ (fun h k => newer_trans h k) (pickD_stable _ ⟨vIs_st, vIs_st, vIs_st, vIs_st, vIs_st, vIs_st, vIs_st, vIs_st, vIs_st, vIs_st, vIs_st, vIs_st, vIs_st, vIs_st, vIs_st, vIs_st, vIs_st, vIs_st, vIs_st, vIs_st, vIs_st, trivial⟩) (Below.refl _ wr).drew (Below.refl _ _) ?_ ?_)
              · refine ⟨.inr ?_, .inr ?_, .inr ?_, .inr ?_, .inr ?_, .inr ?_, .inr ?_, .inr ?_, .inr ?_, .inr ?_, .inr ?_, .inr ?_, .inr ?_, .inr ?_, .inr ?_, .inr ?_, .inr ?_, .inr ?_, .inr ?_, .inr ?_, .inr ?_, trivial⟩
                · intro a W hG hR hO hp
                  have h1 := hO.slot 1 (by kernel_rfl)
                  refine wp_yields (v := .pointer (some ⟨w.heap.size, 0, none⟩)) ?_ ⟨_, rfl, rfl, Below.refl _ _, hG⟩
                  simp [slotOf] at h1
                  simp [execOp, go_sem, h1]
                · intro a W hG hR hO hp
                  have h24 : slotOf a 24 = .pointer (some ⟨w.heap.size, 0, none⟩) := hp.1
                  have c0 := keep_cell x0 hG
                  refine wp_yields (v := .slice (some ⟨b1, o1, none⟩) s.cs.length s.c) ?_ ⟨_, rfl, rfl, Below.refl _ _, hG⟩
                  simp [slotOf] at h24
                  simp [execOp, go_sem, h24, c0]
                · intro a W hG hR hO hp
                  have h3 := hO.slot 3 (by kernel_rfl)
                  refine wp_yields (v := .int .i64 k) ?_ ⟨_, rfl, rfl, Below.refl _ _, hG⟩
                  simp [slotOf] at h3
                  simp [execOp, go_sem, h3]
                · intro a W hG hR hO hp
                  have h25 : slotOf a 25 = .slice (some ⟨b1, o1, none⟩) s.cs.length s.c := hp.1
                  have h26 : slotOf a 26 = .int .i64 k := hp.2.1
                  refine wp_yields (v := .pointer (some ⟨b1, o1 + k, none⟩)) ?_ ⟨_, rfl, rfl, Below.refl _ _, hG⟩
                  simp [slotOf] at h25 h26
                  simp [execOp, go_sem, h25, h26, hki]
                · intro a W hG hR hO hp
                  have h27 : slotOf a 27 = .pointer (some ⟨b1, o1 + k, none⟩) := hp.1
                  have c0 := keep_cell cx hG
                  refine wp_yields (v := .slice x.a x.beds.length x.cp) ?_ ⟨_, rfl, rfl, Below.refl _ _, hG⟩
                  simp [slotOf] at h27
                  simp [execOp, go_sem, h27, c0]
                · intro a W hG hR hO hp
                  have h28 : slotOf a 28 = .slice x.a x.beds.length x.cp := hp.1
                  refine wp_yields (v := .int .i64 x.beds.length) ?_ ⟨_, rfl, rfl, Below.refl _ _, hG⟩
                  simp [slotOf] at h28
                  simp [go_sem, h28]
                · intro a W hG hR hO hp
                  have h29 : slotOf a 29 = .int .i64 x.beds.length := hp.1
                  refine wp_enters (f := 50) (args := #[vi x.beds.length, vi 1, vi 5]) ?_ ((C3.out W).mono ?_)
                  · simp [slotOf] at h29
                    simp [go_sem, h29]
                  · rintro e w' ⟨rfl, rfl⟩
                    exact ⟨_, rfl, _, rfl, rfl, Below.refl _ _, hG⟩
                · intro a W hG hR hO hp
                  have h30 : slotOf a 30 = .bool true := hp.1
                  refine wp_yields (v := .bool false) ?_ ⟨_, rfl, rfl, Below.refl _ _, hG⟩
                  simp [slotOf] at h30
                  simp [execOp, go_sem, h30]
                · intro a W hG hR hO hp
                  have h31 : slotOf a 31 = .bool false := hp.1
                  refine wp_yields (v := .bool false) ?_ ⟨_, rfl, rfl, Below.refl _ _, hG⟩
                  simp [slotOf] at h31
                  simp [execOp, go_sem, h31]
                · intro a W hG hR hO hp
                  have h1 := hO.slot 1 (by kernel_rfl)
                  refine wp_yields (v := .pointer (some ⟨w.heap.size, 0, none⟩)) ?_ ⟨_, rfl, rfl, Below.refl _ _, hG⟩
                  simp [slotOf] at h1
                  simp [execOp, go_sem, h1]
                · intro a W hG hR hO hp
                  have h33 : slotOf a 33 = .pointer (some ⟨w.heap.size, 0, none⟩) := hp.1
                  have c0 := keep_cell x0 hG
                  refine wp_yields (v := .slice (some ⟨b1, o1, none⟩) s.cs.length s.c) ?_ ⟨_, rfl, rfl, Below.refl _ _, hG⟩
                  simp [slotOf] at h33
                  simp [execOp, go_sem, h33, c0]
                · intro a W hG hR hO hp
                  have h3 := hO.slot 3 (by kernel_rfl)
                  refine wp_yields (v := .int .i64 k) ?_ ⟨_, rfl, rfl, Below.refl _ _, hG⟩
                  simp [slotOf] at h3
                  simp [execOp, go_sem, h3]
                · intro a W hG hR hO hp
                  have h34 : slotOf a 34 = .slice (some ⟨b1, o1, none⟩) s.cs.length s.c := hp.1
                  have h35 : slotOf a 35 = .int .i64 k := hp.2.1
                  refine wp_yields (v := .pointer (some ⟨b1, o1 + k, none⟩)) ?_ ⟨_, rfl, rfl, Below.refl _ _, hG⟩
                  simp [slotOf] at h34 h35
                  simp [execOp, go_sem, h34, h35, hki]
                · intro a W hG hR hO hp
                  have h36 : slotOf a 36 = .pointer (some ⟨b1, o1 + k, none⟩) := hp.1
                  have c0 := keep_cell cx hG
                  refine wp_yields (v := .slice x.a x.beds.length x.cp) ?_ ⟨_, rfl, rfl, Below.refl _ _, hG⟩
                  simp [slotOf] at h36
                  simp [execOp, go_sem, h36, c0]
                · intro a W hG hR hO hp
                  have h37 : slotOf a 37 = .slice x.a x.beds.length x.cp := hp.1
                  refine wp_yields (v := .int .i64 x.beds.length) ?_ ⟨_, rfl, rfl, Below.refl _ _, hG⟩
                  simp [slotOf] at h37
                  simp [go_sem, h37]
                · intro a W hG hR hO hp
                  have h1 := hO.slot 1 (by kernel_rfl)
                  refine wp_yields (v := .pointer (some ⟨w.heap.size, 0, none⟩)) ?_ ⟨_, rfl, rfl, Below.refl _ _, hG⟩
                  simp [slotOf] at h1
                  simp [execOp, go_sem, h1]
                · intro a W hG hR hO hp
                  have h39 : slotOf a 39 = .pointer (some ⟨w.heap.size, 0, none⟩) := hp.1
                  have c0 := keep_cell x0 hG
                  refine wp_yields (v := .slice (some ⟨b1, o1, none⟩) s.cs.length s.c) ?_ ⟨_, rfl, rfl, Below.refl _ _, hG⟩
                  simp [slotOf] at h39
                  simp [execOp, go_sem, h39, c0]
                · intro a W hG hR hO hp
                  have h40 : slotOf a 40 = .slice (some ⟨b1, o1, none⟩) s.cs.length s.c := hp.1
                  refine wp_yields (v := .pointer (some ⟨b1, o1, none⟩)) ?_ ⟨_, rfl, rfl, Below.refl _ _, hG⟩
                  simp [slotOf] at h40
                  simp [execOp, go_sem, h40, hcne]
                · intro a W hG hR hO hp
                  have h41 : slotOf a 41 = .pointer (some ⟨b1, o1, none⟩) := hp.1
                  have c0 := keep_cell cy hG
                  refine wp_yields (v := .slice y0.a n y0.cp) ?_ ⟨_, rfl, rfl, Below.refl _ _, hG⟩
                  simp [slotOf] at h41
                  simp [execOp, go_sem, h41, c0]
                · intro a W hG hR hO hp
                  have h42 : slotOf a 42 = .slice y0.a n y0.cp := hp.1
                  refine wp_yields (v := .int .i64 n) ?_ ⟨_, rfl, rfl, Below.refl _ _, hG⟩
                  simp [slotOf] at h42
                  simp [go_sem, h42]
                · intro a W hG hR hO hp
                  have h38 : slotOf a 38 = .int .i64 x.beds.length := hp.1
                  have h43 : slotOf a 43 = .int .i64 n := hp.2.1
                  refine wp_yields (v := .bool true) ?_ ⟨_, rfl, rfl, Below.refl _ _, hG⟩
                  simp [slotOf] at h38 h43
                  simp [execOp, go_sem, h38, h43, hne]
              · intro W hG hR
                rintro _ rfl _ rfl _ rfl _ rfl _ rfl _ rfl _ rfl _ rfl _ rfl _ rfl _ rfl _ rfl _ rfl _ rfl _ rfl _ rfl _ rfl _ rfl _ rfl _ rfl _ rfl
                change wpList _ _ _ _ _ _
                simp only [Act.put, List.setIfInBounds_toArray, List.set_cons_zero, List.set_cons_succ, List.drop_succ_cons, List.drop_zero]
                have HE2 := Lib.hid (newer_trans HE.out.1 hG)
                clear hG hR cy cx x0
                go_wp2_with fail
                go_ret
                exact ⟨rfl, HE2.out⟩
        · obtain rfl : k = s.cs.length := by omega
          have hrf := HT.out HE.out.2.2.2
          subst hrf
          go_wp2_with fail
          go_ret
          exact ⟨rfl, HE.out.1⟩

end Go.Proofs.Ytkenokpobbichaa
