/- What the last text of this chain needs: AA, AC, AD, AF, BH. -/
import Derived.Test.YtcdhhfgpdokkoaaZH07
namespace Go.Proofs.Ytcdhhfgpdokkoaa
section
open Go.RowKit Go.Shelf Go.Deep
def thinS (s : Sd) : Bool := s.cols.all (fun l => decide (l.length <= 8)) && decide (s.cols.length <= 15)
theorem thinS_few {s : Sm} (h : thinS s.sd = true) : SmFew s /\ s.cs.length <= 15 /\ ∀ x ∈ s.cs, x.beds.length <= 8 := by
 unfold thinS at h
 rw [Bool.and_eq_true, decide_eq_true_eq, sd_len, sd_all, List.all_eq_true] at h
 have h1 : ∀ x ∈ s.cs, x.beds.length <= 8 := fun x hx => by simpa using h.1 x hx
 exact ⟨⟨by omega, fun x hx => by have := h1 x hx; omega⟩, h.2, h1⟩
set_option maxRecDepth 100000 in
set_option maxHeartbeats 2000000 in
theorem lawThin (s : Sm) (w : World) (hok : SmOk s w) : Calls Try.prog 7 #[smV s] w fun e w' => e = .returned (.bool (thinS s.sd)) /\ newer w w' := by
 have H0 := Lib.hid (And.intro (newer_allocH w (.cells (smC s) 38)) (Whole.made w 38 (smC s)))
 have HOK := Lib.hid hok
 have hf1 : ∀ x ∈ s.cs, ¬ x.beds.length <= 8 -> thinS s.sd = false := fun x hx h => by
  unfold thinS
  have : s.sd.cols.all (fun l => decide (l.length <= 8)) = false := by
   rw [sd_all, List.all_eq_false]
   exact ⟨x, hx, by simpa using h⟩
  rw [this]
  rfl
 have hf2 : ¬ s.cs.length <= 15 -> thinS s.sd = false := fun h => by
  unfold thinS
  rw [sd_len, decide_eq_false h, Bool.and_false]
 have ht : s.cs.length <= 15 -> early (fun x : Cl => !decide (x.beds.length <= 8)) s.cs s.cs.length -> thinS s.sd = true := fun h1 h2 => by
  unfold thinS
  rw [sd_len, decide_eq_true h1, Bool.and_true, sd_all, List.all_eq_true]
  intro x hx
  obtain ⟨i, hi⟩ := List.mem_iff_getElem?.1 hx
  have h3 := h2 i x (List.getElem?_eq_some_iff.1 hi).1 hi
  simpa using h3
 have HF := Lib.hid (And.intro hf1 (And.intro hf2 ht))
 clear hf1 hf2 ht
 obtain ⟨r, hr⟩ : ∃ r, r = thinS s.sd := ⟨_, rfl⟩
 rw [<- hr] at HF ⊢
 clear hr hok
 go_enter Try.func7, Try.ntmps7
 go_wp2_with fail
 go_loopw [3] (fun s3 wr => ∃ k : Nat, k <= s.cs.length /\ k <= 16 /\ s3 = vi k /\ newer w wr /\ Whole wr w.heap.size 38 (smC s) /\ early (fun x : Cl => !decide (x.beds.length <= 8)) s.cs k) (fun s3 _ => s.cs.length - (intOf s3).toNat)
 case atStart => exact ⟨0, Nat.zero_le _, by omega, rfl, H0.out.1, H0.out.2, early_zero _ _⟩
 case round =>
  obtain ⟨k, hk, hk16, rfl, hbw, hbx, he⟩ := hrel
  clear H0
  have x0 := hbx.at 0 (v := .slice s.a s.cs.length s.c) rfl
  have HE := Lib.hid (And.intro hbw (And.intro hbx he))
  by_cases hlt : k < s.cs.length
  ·by_cases h15 : 15 < k
   ·have hrf : r = false := HF.out.2.1 (by omega)
    subst hrf
    clear hbx hbw he
    go_wp2_with fail
    go_ret
    exact ⟨rfl, HE.out.1⟩
   ·obtain ⟨x, hx⟩ := get_of_lt hlt
    obtain ⟨b1, o1, ea, _, cx⟩ := rowC (HOK.out.next hbw).cs hx
    have HX := Lib.hid hx
    have HEA := Lib.hid ea
    rw [ea] at x0
    clear hbx hbw he hx ea
    by_cases ha : x.beds.length <= 8
    ·have HN := Lib.hid (early_succ HE.out.2.2 HX.out (by simp [ha]))
     go_wp2_with fail
     refine ⟨⟨k + 1, by omega, by omega, rfl, HE.out.1, HE.out.2.1, HN.out⟩, ?_⟩
     simp [intOf]
     omega
    ·have hrf : r = false := HF.out.1 x (List.mem_of_getElem? HX.out) ha
     subst hrf
     go_wp2_with fail
     go_ret
     exact ⟨rfl, HE.out.1⟩
  ·obtain rfl : k = s.cs.length := by omega
   clear hbx hbw he
   by_cases h15 : s.cs.length <= 15
   ·have hrf : r = true := HF.out.2.2 h15 HE.out.2.2
    subst hrf
    go_wp2_with fail
    go_ret
    exact ⟨ret_bool (decide_eq_true (by omega)), HE.out.1⟩
   ·have hrf : r = false := HF.out.2.1 h15
    subst hrf
    go_wp2_with fail
    go_ret
    exact ⟨ret_bool (decide_eq_false (by omega)), HE.out.1⟩
set_option maxHeartbeats 400000 in
theorem refUp_any (r : Rg) (most : Int) (w : World) : Calls Try.prog 21 #[rgV r, vi most] w fun e w' => e = .returned (.bool (rgU r most)) /\ newer w w' := by
 obtain ⟨lo, hi⟩ := r
 unfold rgU
 dsimp only
 by_cases h1 : 0 <= lo
 ·by_cases h2 : lo <= hi
  ·by_cases h3 : hi <= most
   all_goals
    (go_enter Try.func21, Try.ntmps21
     go_wp2
     go_ret
     exact ⟨ret_bool (by simp <;> omega), (Below.refl _ _).alloc (Nat.le_refl _) _⟩)
  ·go_enter Try.func21, Try.ntmps21
   go_wp2
   go_ret
   exact ⟨ret_bool (by simp <;> omega), (Below.refl _ _).alloc (Nat.le_refl _) _⟩
 ·go_enter Try.func21, Try.ntmps21
  go_wp2
  go_ret
  exact ⟨ret_bool (by simp <;> omega), (Below.refl _ _).alloc (Nat.le_refl _) _⟩
def colP (n : Nat) (x : Cl) : Bool := inB x.beds.length 1 5 && decide (x.beds.length = n) && x.beds.all bdB
set_option maxRecDepth 100000 in
set_option maxHeartbeats 2000000 in
theorem right_any (s : Sm) (w : World) (hok : SmOk s w) (few : SmFew s) : Calls Try.prog 8 #[smV s] w fun e w' => e = .returned (.bool (slopeB s.sd)) /\ newer w w' := by
 have H0 := Lib.hid (And.intro (newer_allocH w (.cells (smC s) 38)) (Whole.made w 38 (smC s)))
 have HOK := Lib.hid hok
 have HFW := Lib.hid few
 have hf1 : inB s.cs.length 1 12 = false -> slopeB s.sd = false := fun h => by unfold slopeB; rw [sd_len, h]; rfl
 have hf2 : inB s.least 1 4 = false -> slopeB s.sd = false := fun h => by
  unfold slopeB
  rw [show s.sd.least = s.least from rfl, h, Bool.and_false, Bool.false_and]
 have hf3 : ∀ x ∈ s.cs, colP s.sd.n x = false -> slopeB s.sd = false := fun x hx h => by
  cases hv : slopeB s.sd with
  | false => rfl
  | true =>
   have hs := sdOk_iff.1 hv
   have hm : x.beds ∈ s.sd.cols := List.mem_map.2 ⟨x, hx, rfl⟩
   have h1 := hs.len _ hm
   have h2 := hs.beds
   have h3 : x.beds.all bdB = true := List.all_eq_true.2 fun b hb => hs.bd _ hm b hb
   unfold colP at h
   rw [h3, decide_eq_true h1, show inB x.beds.length 1 5 = true by simp [inB]; omega] at h
   cases h
 have ht : inB s.cs.length 1 12 = true -> inB s.least 1 4 = true -> early (fun x => !colP s.sd.n x) s.cs s.cs.length -> slopeB s.sd = true := fun h1 h2 h3 => by
  have h4 : ∀ x ∈ s.cs, colP s.sd.n x = true := fun x hx => by
   obtain ⟨i, hi⟩ := List.mem_iff_getElem?.1 hx
   have h5 := h3 i x (List.getElem?_eq_some_iff.1 hi).1 hi
   simpa using h5
  have h6 : 0 < s.cs.length := by simp [inB] at h1; omega
  obtain ⟨x0, hx0⟩ := get_of_lt h6
  have h7 := h4 x0 (List.mem_of_getElem? hx0)
  have h8 := sd_n hx0
  unfold slopeB
  rw [sd_len, h1, show s.sd.least = s.least from rfl, h2, sd_all]
  unfold colP at h7
  rw [Bool.and_eq_true, Bool.and_eq_true] at h7
  rw [h8, h7.1.1, Bool.true_and, Bool.true_and, Bool.true_and, List.all_eq_true, <- h8]
  intro x hx
  have h9 := h4 x hx
  unfold colP at h9
  rw [Bool.and_eq_true, Bool.and_eq_true] at h9
  rw [Bool.and_eq_true]
  exact ⟨h9.1.2, h9.2⟩
 have HF := Lib.hid (And.intro hf1 (And.intro hf2 (And.intro hf3 ht)))
 clear hf1 hf2 hf3 ht
 obtain ⟨r, hr⟩ : ∃ r, r = slopeB s.sd := ⟨_, rfl⟩
 rw [<- hr] at HF ⊢
 have x0 := H0.out.2.at 0 (v := .slice s.a s.cs.length s.c) rfl
 have x1 := H0.out.2.at 1 (v := vi s.least) rfl
 have C1 := Lib.hid (fun W => in_any s.cs.length 1 12 W)
 have C2 := Lib.hid (fun W => in_any s.least 1 4 W)
 clear hr hok few
 cases q1 : inB s.cs.length 1 12 with
 | false =>
  have hrf := HF.out.1 q1
  subst hrf
  rw [q1] at C1
  clear q1
  go_enter Try.func8, Try.ntmps8
  go_wp2_with fail
  refine (C1.out _).mono ?_
  rintro e w2 ⟨rfl, rfl⟩
  go_wp2_with fail
  go_ret
  exact ⟨rfl, H0.out.1⟩
 | true =>
  cases q2 : inB s.least 1 4 with
  | false =>
   have hrf := HF.out.2.1 q2
   subst hrf
   rw [q1] at C1
   rw [q2] at C2
   clear q1 q2
   go_enter Try.func8, Try.ntmps8
   go_wp2_with fail
   refine (C1.out _).mono ?_
   rintro e w2 ⟨rfl, rfl⟩
   go_wp2_with fail
   refine (C2.out _).mono ?_
   rintro e w2 ⟨rfl, rfl⟩
   go_wp2_with fail
   go_ret
   exact ⟨rfl, H0.out.1⟩
  | true =>
   have hl1 : 1 <= s.cs.length /\ s.cs.length <= 12 := by simp [inB] at q1; omega
   have HT := Lib.hid (HF.out.2.2.2 q1 q2)
   rw [q1] at C1
   rw [q2] at C2
   obtain ⟨y0, hy0⟩ := get_of_lt (l := s.cs) (k := 0) (by omega)
   have hyn : y0.beds.length = s.sd.n := (sd_n hy0).symm
   obtain ⟨b1, o1, ea, _, cy⟩ := rowC (HOK.out.next H0.out.1).cs hy0
   simp only [Nat.add_zero] at cy
   obtain ⟨n, hn⟩ : ∃ n, n = s.sd.n := ⟨_, rfl⟩
   rw [hyn, <- hn] at cy
   rw [<- hn] at HF HT
   have hnb : n <= 1000 := by have := HFW.out.bd y0 (List.mem_of_getElem? hy0); omega
   have HCY := Lib.hid (And.intro cy ea)
   have hcne : ¬ (s.cs = []) := by intro h; rw [h] at hl1; simp at hl1
   rw [ea] at x0
   clear q1 q2 hy0 hyn hn cy ea
   go_enter Try.func8, Try.ntmps8
   go_wp2_with fail
   refine (C1.out _).mono ?_
   rintro e w2 ⟨rfl, rfl⟩
   go_wp2_with fail
   refine (C2.out _).mono ?_
   rintro e w2 ⟨rfl, rfl⟩
   go_wp2_with fail
   go_loopw [3] (fun s3 wr => ∃ k : Nat, k <= s.cs.length /\ s3 = vi k /\ newer w wr /\ Whole wr w.heap.size 38 (smC s) /\ newer (w.alloc (.cells (smC s) 38)) wr /\ early (fun x => !colP n x) s.cs k) (fun s3 _ => s.cs.length - (intOf s3).toNat)
   case atStart => exact ⟨0, Nat.zero_le _, rfl, H0.out.1, H0.out.2, Below.refl _ _, early_zero _ _⟩
   case round =>
    obtain ⟨k, hk, rfl, hbw, hbx, hbz, he⟩ := hrel
    clear H0 x0 x1 C1 C2
    have x0 := hbx.at 0 (v := .slice s.a s.cs.length s.c) rfl
    rw [HCY.out.2] at x0
    have cy := keep_cell HCY.out.1 hbz
    have HE := Lib.hid (And.intro hbw (And.intro hbx (And.intro hbz he)))
    clear hbx hbz he
    by_cases hlt : k < s.cs.length
    ·obtain ⟨x, hx⟩ := get_of_lt hlt
     obtain ⟨b2, o2, ea, _, cx⟩ := rowC (HOK.out.next hbw).cs hx
     rw [HCY.out.2] at ea
     obtain ⟨rfl, rfl⟩ : b1 = b2 /\ o1 = o2 := by simpa using ea
     have HX := Lib.hid hx
     have hxl := HFW.out.bd x (List.mem_of_getElem? hx)
     have HXM := Lib.hid (List.mem_of_getElem? hx)
     have hki : (k : Int) < s.cs.length := by omega
     have C3 := Lib.hid (fun W => in_any x.beds.length 1 5 W)
     have hcp : colP n x = (inB x.beds.length 1 5 && decide (x.beds.length = n) && x.beds.all bdB) := rfl
     clear hx ea hbw
     cases q3 : inB x.beds.length 1 5 with
     | false =>
      have hrf := HF.out.2.2.1 x HXM.out (by rw [hcp, q3]; rfl)
      subst hrf
      rw [q3] at C3
      clear q3 hcp
      go_upto_region 6 with fail
      refine wp_words (by kernel_rfl) (region_told_u 21 (by kernel_rfl) (by kernel_rfl) [false, false, false, false, false, false, false, false, false, true, true, true, true, true, true, true, true, true, true, true, true] (fun W => Below wr.heap.size wr W) newer [vIs (.pointer (some ⟨w.heap.size, 0, none⟩)), vIs (.slice (some ⟨b1, o1, none⟩) s.cs.length s.c), vIs (.int .i64 k), vIs (.pointer (some ⟨b1, o1 + k, none⟩)), vIs (.slice x.a x.beds.length x.cp), vIs (.int .i64 x.beds.length), vIs (.bool false), vIs (.bool true), vIs (.bool true), vIs (undef), vIs (undef), vIs (undef), vIs (undef), vIs (undef), vIs (undef), vIs (undef), vIs (undef), vIs (undef), vIs (undef), vIs (undef), vIs (undef)] (by repeat' first | refine And.intro ?_ ?_ | exact trivial | exact rfl | (intro v W h; obtain rfl : v = _ := h; first | rfl | (simp; done) | (simp [undef]; done))) (by repeat' first | refine And.intro ?_ ?_ | exact trivial | exact (fun h => Bool.noConfusion (show false = true from h)) | exact (fun _ _ => rfl)) (fun h k => newer_trans h k) (pickD_stable _ (by repeat' first | refine And.intro ?_ ?_ | exact trivial | exact vIs_st)) (Below.refl _ wr).drew (Below.refl _ _) ?_ ?_)
      ·refine ⟨.inr ?_, .inr ?_, .inr ?_, .inr ?_, .inr ?_, .inr ?_, .inr ?_, .inr ?_, .inr ?_, .inl rfl, .inl rfl, .inl rfl, .inl rfl, .inl rfl, .inl rfl, .inl rfl, .inl rfl, .inl rfl, .inl rfl, .inl rfl, .inl rfl, trivial⟩
       ·intro a W hG hR hO hp; have h1 := hO.slot 1 (by kernel_rfl); refine wp_yields (v := .pointer (some ⟨w.heap.size, 0, none⟩)) ?_ ⟨_, rfl, rfl, Below.refl _ _, hG⟩; simp [slotOf] at h1; simp [execOp, go_sem, h1]
       ·intro a W hG hR hO hp; have h24 : slotOf a 24 = .pointer (some ⟨w.heap.size, 0, none⟩) := hp.1; have c0 := keep_cell x0 hG; refine wp_yields (v := .slice (some ⟨b1, o1, none⟩) s.cs.length s.c) ?_ ⟨_, rfl, rfl, Below.refl _ _, hG⟩; simp [slotOf] at h24; simp [execOp, go_sem, h24, c0]
       ·intro a W hG hR hO hp; have h3 := hO.slot 3 (by kernel_rfl); refine wp_yields (v := .int .i64 k) ?_ ⟨_, rfl, rfl, Below.refl _ _, hG⟩; simp [slotOf] at h3; simp [execOp, go_sem, h3]
       ·intro a W hG hR hO hp; have h25 : slotOf a 25 = .slice (some ⟨b1, o1, none⟩) s.cs.length s.c := hp.1; have h26 : slotOf a 26 = .int .i64 k := hp.2.1; refine wp_yields (v := .pointer (some ⟨b1, o1 + k, none⟩)) ?_ ⟨_, rfl, rfl, Below.refl _ _, hG⟩; simp [slotOf] at h25 h26; simp [execOp, go_sem, h25, h26, hki]
       ·intro a W hG hR hO hp; have h27 : slotOf a 27 = .pointer (some ⟨b1, o1 + k, none⟩) := hp.1; have c0 := keep_cell cx hG; refine wp_yields (v := .slice x.a x.beds.length x.cp) ?_ ⟨_, rfl, rfl, Below.refl _ _, hG⟩; simp [slotOf] at h27; simp [execOp, go_sem, h27, c0]
       ·intro a W hG hR hO hp; have h28 : slotOf a 28 = .slice x.a x.beds.length x.cp := hp.1; refine wp_yields (v := .int .i64 x.beds.length) ?_ ⟨_, rfl, rfl, Below.refl _ _, hG⟩; simp [slotOf] at h28; simp [go_sem, h28]
       ·intro a W hG hR hO hp
        have h29 : slotOf a 29 = .int .i64 x.beds.length := hp.1
        refine wp_enters (f := 20) (args := #[vi x.beds.length, vi 1, vi 5]) ?_ ((C3.out W).mono ?_)
        ·simp [slotOf] at h29
         simp [go_sem, h29]
        ·rintro e w' ⟨rfl, rfl⟩
         exact ⟨_, rfl, _, rfl, rfl, Below.refl _ _, hG⟩
       ·intro a W hG hR hO hp; have h30 : slotOf a 30 = .bool false := hp.1; refine wp_yields (v := .bool true) ?_ ⟨_, rfl, rfl, Below.refl _ _, hG⟩; simp [slotOf] at h30; simp [execOp, go_sem, h30]
       ·intro a W hG hR hO hp; have h31 : slotOf a 31 = .bool true := hp.1; refine wp_yields (v := .bool true) ?_ ⟨_, rfl, rfl, Below.refl _ _, hG⟩; simp [slotOf] at h31; simp [execOp, go_sem, h31]
      ·intro W hG hR
       rintro _ rfl _ rfl _ rfl _ rfl _ rfl _ rfl _ rfl _ rfl _ rfl _ rfl _ rfl _ rfl _ rfl _ rfl _ rfl _ rfl _ rfl _ rfl _ rfl _ rfl _ rfl
       change wpList _ _ _ _ _ _
       simp only [Act.put, List.setIfInBounds_toArray, List.set_cons_zero, List.set_cons_succ, List.drop_succ_cons, List.drop_zero]
       have HE2 := Lib.hid (newer_trans HE.out.1 hG)
       clear hG hR cy cx x0
       go_wp2_with fail
       go_ret
       exact ⟨rfl, HE2.out⟩
     | true =>
      rw [q3] at C3
      by_cases hln : x.beds.length = n
      ·have HB := Lib.hid (fun b (hb : b ∈ x.beds) (h : bdB b = false) => HF.out.2.2.1 x HXM.out (by
        rw [hcp, q3, show x.beds.all bdB = false from List.all_eq_false.2 ⟨b, hb, by simp [h]⟩, Bool.and_false]))
       have HBT : Hid (early (fun b => !bdB b) x.beds x.beds.length -> colP n x = true) := Lib.hid (fun h => by
        rw [hcp, q3, decide_eq_true hln, Bool.true_and, Bool.true_and, List.all_eq_true]
        intro b hb
        obtain ⟨i, hi⟩ := List.mem_iff_getElem?.1 hb
        have h1 := h i b (List.getElem?_eq_some_iff.1 hi).1 hi
        simpa using h1)
       have hne : ((x.beds.length : Int) != n) = false := by simp [hln]
       clear q3 hcp hln
       go_upto_region 6 with fail
       refine wp_words (by kernel_rfl) (region_told_u 21 (by kernel_rfl) (by kernel_rfl) [false, false, false, false, false, false, false, false, false, false, false, false, false, false, false, false, false, false, false, false, false] (fun W => Below wr.heap.size wr W) newer [vIs (.pointer (some ⟨w.heap.size, 0, none⟩)), vIs (.slice (some ⟨b1, o1, none⟩) s.cs.length s.c), vIs (.int .i64 k), vIs (.pointer (some ⟨b1, o1 + k, none⟩)), vIs (.slice x.a x.beds.length x.cp), vIs (.int .i64 x.beds.length), vIs (.bool true), vIs (.bool false), vIs (.bool false), vIs (.pointer (some ⟨w.heap.size, 0, none⟩)), vIs (.slice (some ⟨b1, o1, none⟩) s.cs.length s.c), vIs (.int .i64 k), vIs (.pointer (some ⟨b1, o1 + k, none⟩)), vIs (.slice x.a x.beds.length x.cp), vIs (.int .i64 x.beds.length), vIs (.pointer (some ⟨w.heap.size, 0, none⟩)), vIs (.slice (some ⟨b1, o1, none⟩) s.cs.length s.c), vIs (.pointer (some ⟨b1, o1, none⟩)), vIs (.slice y0.a n y0.cp), vIs (.int .i64 n), vIs (.bool false)] (by repeat' first | refine And.intro ?_ ?_ | exact trivial | exact rfl | (intro v W h; obtain rfl : v = _ := h; first | rfl | (simp; done) | (simp [undef]; done))) (by repeat' first | refine And.intro ?_ ?_ | exact trivial | exact (fun h => Bool.noConfusion (show false = true from h)) | exact (fun _ _ => rfl)) (fun h k => newer_trans h k) (pickD_stable _ (by repeat' first | refine And.intro ?_ ?_ | exact trivial | exact vIs_st)) (Below.refl _ wr).drew (Below.refl _ _) ?_ ?_)
       ·refine ⟨.inr ?_, .inr ?_, .inr ?_, .inr ?_, .inr ?_, .inr ?_, .inr ?_, .inr ?_, .inr ?_, .inr ?_, .inr ?_, .inr ?_, .inr ?_, .inr ?_, .inr ?_, .inr ?_, .inr ?_, .inr ?_, .inr ?_, .inr ?_, .inr ?_, trivial⟩
        ·intro a W hG hR hO hp; have h1 := hO.slot 1 (by kernel_rfl); refine wp_yields (v := .pointer (some ⟨w.heap.size, 0, none⟩)) ?_ ⟨_, rfl, rfl, Below.refl _ _, hG⟩; simp [slotOf] at h1; simp [execOp, go_sem, h1]
        ·intro a W hG hR hO hp; have h24 : slotOf a 24 = .pointer (some ⟨w.heap.size, 0, none⟩) := hp.1; have c0 := keep_cell x0 hG; refine wp_yields (v := .slice (some ⟨b1, o1, none⟩) s.cs.length s.c) ?_ ⟨_, rfl, rfl, Below.refl _ _, hG⟩; simp [slotOf] at h24; simp [execOp, go_sem, h24, c0]
        ·intro a W hG hR hO hp; have h3 := hO.slot 3 (by kernel_rfl); refine wp_yields (v := .int .i64 k) ?_ ⟨_, rfl, rfl, Below.refl _ _, hG⟩; simp [slotOf] at h3; simp [execOp, go_sem, h3]
        ·intro a W hG hR hO hp; have h25 : slotOf a 25 = .slice (some ⟨b1, o1, none⟩) s.cs.length s.c := hp.1; have h26 : slotOf a 26 = .int .i64 k := hp.2.1; refine wp_yields (v := .pointer (some ⟨b1, o1 + k, none⟩)) ?_ ⟨_, rfl, rfl, Below.refl _ _, hG⟩; simp [slotOf] at h25 h26; simp [execOp, go_sem, h25, h26, hki]
        ·intro a W hG hR hO hp; have h27 : slotOf a 27 = .pointer (some ⟨b1, o1 + k, none⟩) := hp.1; have c0 := keep_cell cx hG; refine wp_yields (v := .slice x.a x.beds.length x.cp) ?_ ⟨_, rfl, rfl, Below.refl _ _, hG⟩; simp [slotOf] at h27; simp [execOp, go_sem, h27, c0]
        ·intro a W hG hR hO hp; have h28 : slotOf a 28 = .slice x.a x.beds.length x.cp := hp.1; refine wp_yields (v := .int .i64 x.beds.length) ?_ ⟨_, rfl, rfl, Below.refl _ _, hG⟩; simp [slotOf] at h28; simp [go_sem, h28]
        ·intro a W hG hR hO hp
         have h29 : slotOf a 29 = .int .i64 x.beds.length := hp.1
         refine wp_enters (f := 20) (args := #[vi x.beds.length, vi 1, vi 5]) ?_ ((C3.out W).mono ?_)
         ·simp [slotOf] at h29
          simp [go_sem, h29]
         ·rintro e w' ⟨rfl, rfl⟩
          exact ⟨_, rfl, _, rfl, rfl, Below.refl _ _, hG⟩
        ·intro a W hG hR hO hp; have h30 : slotOf a 30 = .bool true := hp.1; refine wp_yields (v := .bool false) ?_ ⟨_, rfl, rfl, Below.refl _ _, hG⟩; simp [slotOf] at h30; simp [execOp, go_sem, h30]
        ·intro a W hG hR hO hp; have h31 : slotOf a 31 = .bool false := hp.1; refine wp_yields (v := .bool false) ?_ ⟨_, rfl, rfl, Below.refl _ _, hG⟩; simp [slotOf] at h31; simp [execOp, go_sem, h31]
        ·intro a W hG hR hO hp; have h1 := hO.slot 1 (by kernel_rfl); refine wp_yields (v := .pointer (some ⟨w.heap.size, 0, none⟩)) ?_ ⟨_, rfl, rfl, Below.refl _ _, hG⟩; simp [slotOf] at h1; simp [execOp, go_sem, h1]
        ·intro a W hG hR hO hp; have h33 : slotOf a 33 = .pointer (some ⟨w.heap.size, 0, none⟩) := hp.1; have c0 := keep_cell x0 hG; refine wp_yields (v := .slice (some ⟨b1, o1, none⟩) s.cs.length s.c) ?_ ⟨_, rfl, rfl, Below.refl _ _, hG⟩; simp [slotOf] at h33; simp [execOp, go_sem, h33, c0]
        ·intro a W hG hR hO hp; have h3 := hO.slot 3 (by kernel_rfl); refine wp_yields (v := .int .i64 k) ?_ ⟨_, rfl, rfl, Below.refl _ _, hG⟩; simp [slotOf] at h3; simp [execOp, go_sem, h3]
        ·intro a W hG hR hO hp; have h34 : slotOf a 34 = .slice (some ⟨b1, o1, none⟩) s.cs.length s.c := hp.1; have h35 : slotOf a 35 = .int .i64 k := hp.2.1; refine wp_yields (v := .pointer (some ⟨b1, o1 + k, none⟩)) ?_ ⟨_, rfl, rfl, Below.refl _ _, hG⟩; simp [slotOf] at h34 h35; simp [execOp, go_sem, h34, h35, hki]
        ·intro a W hG hR hO hp; have h36 : slotOf a 36 = .pointer (some ⟨b1, o1 + k, none⟩) := hp.1; have c0 := keep_cell cx hG; refine wp_yields (v := .slice x.a x.beds.length x.cp) ?_ ⟨_, rfl, rfl, Below.refl _ _, hG⟩; simp [slotOf] at h36; simp [execOp, go_sem, h36, c0]
        ·intro a W hG hR hO hp; have h37 : slotOf a 37 = .slice x.a x.beds.length x.cp := hp.1; refine wp_yields (v := .int .i64 x.beds.length) ?_ ⟨_, rfl, rfl, Below.refl _ _, hG⟩; simp [slotOf] at h37; simp [go_sem, h37]
        ·intro a W hG hR hO hp; have h1 := hO.slot 1 (by kernel_rfl); refine wp_yields (v := .pointer (some ⟨w.heap.size, 0, none⟩)) ?_ ⟨_, rfl, rfl, Below.refl _ _, hG⟩; simp [slotOf] at h1; simp [execOp, go_sem, h1]
        ·intro a W hG hR hO hp; have h39 : slotOf a 39 = .pointer (some ⟨w.heap.size, 0, none⟩) := hp.1; have c0 := keep_cell x0 hG; refine wp_yields (v := .slice (some ⟨b1, o1, none⟩) s.cs.length s.c) ?_ ⟨_, rfl, rfl, Below.refl _ _, hG⟩; simp [slotOf] at h39; simp [execOp, go_sem, h39, c0]
        ·intro a W hG hR hO hp; have h40 : slotOf a 40 = .slice (some ⟨b1, o1, none⟩) s.cs.length s.c := hp.1; refine wp_yields (v := .pointer (some ⟨b1, o1, none⟩)) ?_ ⟨_, rfl, rfl, Below.refl _ _, hG⟩; simp [slotOf] at h40; simp [execOp, go_sem, h40, hcne]
        ·intro a W hG hR hO hp; have h41 : slotOf a 41 = .pointer (some ⟨b1, o1, none⟩) := hp.1; have c0 := keep_cell cy hG; refine wp_yields (v := .slice y0.a n y0.cp) ?_ ⟨_, rfl, rfl, Below.refl _ _, hG⟩; simp [slotOf] at h41; simp [execOp, go_sem, h41, c0]
        ·intro a W hG hR hO hp; have h42 : slotOf a 42 = .slice y0.a n y0.cp := hp.1; refine wp_yields (v := .int .i64 n) ?_ ⟨_, rfl, rfl, Below.refl _ _, hG⟩; simp [slotOf] at h42; simp [go_sem, h42]
        ·intro a W hG hR hO hp; have h38 : slotOf a 38 = .int .i64 x.beds.length := hp.1; have h43 : slotOf a 43 = .int .i64 n := hp.2.1; refine wp_yields (v := .bool false) ?_ ⟨_, rfl, rfl, Below.refl _ _, hG⟩; simp [slotOf] at h38 h43; simp [execOp, go_sem, h38, h43, hne]
       ·intro W hG hR
        rintro _ rfl _ rfl _ rfl _ rfl _ rfl _ rfl _ rfl _ rfl _ rfl _ rfl _ rfl _ rfl _ rfl _ rfl _ rfl _ rfl _ rfl _ rfl _ rfl _ rfl _ rfl
        change wpList _ _ _ _ _ _
        simp only [Act.put, List.setIfInBounds_toArray, List.set_cons_zero, List.set_cons_succ, List.drop_succ_cons, List.drop_zero]
        have HE2 := Lib.hid (And.intro (newer_trans HE.out.1 hG) (And.intro (HE.out.2.1.below hG HE.out.2.1.lt) (newer_trans HE.out.2.2.1 hG)))
        clear hG hR cy cx x0 hne
        go_wp2_with fail
        go_loopw [4] (fun s4 wr => ∃ j : Nat, j <= x.beds.length /\ s4 = vi j /\ newer w wr /\ Whole wr w.heap.size 38 (smC s) /\ newer (w.alloc (.cells (smC s) 38)) wr /\ early (fun b => !bdB b) x.beds j) (fun s4 _ => x.beds.length - (intOf s4).toNat)
        case atStart => exact ⟨0, Nat.zero_le _, rfl, HE2.out.1, HE2.out.2.1, HE2.out.2.2, early_zero _ _⟩
        case round =>
         obtain ⟨j, hj, rfl, hbw, hbx, hbz, he⟩ := hrel
         have x0 := hbx.at 0 (v := .slice s.a s.cs.length s.c) rfl
         rw [HCY.out.2] at x0
         have HE3 := Lib.hid (And.intro hbw (And.intro hbx (And.intro hbz he)))
         obtain ⟨b3, o3, ea, _, cx⟩ := rowC (HOK.out.next hbw).cs HX.out
         rw [HCY.out.2] at ea
         obtain ⟨rfl, rfl⟩ : b1 = b3 /\ o1 = o3 := by simpa using ea
         clear HE2 ea hbx hbz he
         by_cases hlt2 : j < x.beds.length
         ·obtain ⟨b, hb⟩ := get_of_lt hlt2
          obtain ⟨b4, o4, e4, _, d0, d1, d2, d3, d4, d5, d6, d7⟩ := row8 ((HOK.out.next hbw).bd x HXM.out) hb
          rw [e4] at cx
          have hji : (j : Int) < x.beds.length := by omega
          have HBM := Lib.hid (And.intro hb (List.mem_of_getElem? hb))
          have D1 := Lib.hid (fun W => in_any b.drive (-100000) 100000 W)
          have D2 := Lib.hid (fun W => in_any b.normal 0 100000 W)
          have D3 := Lib.hid (fun W => refUp_any b.fr 2000 W)
          have D4 := Lib.hid (fun W => refUp_any b.co 100000 W)
          have D5 := Lib.hid (fun W => refUp_any b.wa 100000 W)
          have hbd : bdB b = (inB b.drive (-100000) 100000 && inB b.normal 0 100000 && rgU b.fr 2000 && rgU b.co 100000 && rgU b.wa 100000) := rfl
          have e5 := newer_allocH wr (.cells (bdC b) 83)
          have HE4 := Lib.hid (And.intro (newer_trans HE3.out.1 e5) (And.intro (HE3.out.2.1.below e5 HE3.out.2.1.lt) (And.intro (newer_trans HE3.out.2.2.1 e5) (Whole.made wr 83 (bdC b)))))
          clear hb hbw e4 e5
          go_upto_region 12 with fail
          refine genQ (fun X => newer w X /\ Whole X w.heap.size 38 (smC s) /\ newer (w.alloc (.cells (smC s) 38)) X /\ Whole X wr.heap.size 83 (bdC b)) HE4.out ?_
          clear HE4 d0 d1 d2 d3 d4 d5 d6 d7 cx x0
          obtain ⟨bb, hbb⟩ : ∃ bb, bb = wr.heap.size := ⟨_, rfl⟩
          rw [<- hbb]
          rintro w5 ⟨p1, p2, p3, p4⟩
          have z0 := p4.at 0 (v := vi b.drive) rfl
          have z1 := p4.at 1 (v := vi b.normal) rfl
          have z2 := p4.at 2 (v := vi b.fr.lo) rfl
          have z3 := p4.at 3 (v := vi b.fr.hi) rfl
          have z4 := p4.at 4 (v := vi b.co.lo) rfl
          have z5 := p4.at 5 (v := vi b.co.hi) rfl
          have z6 := p4.at 6 (v := vi b.wa.lo) rfl
          have z7 := p4.at 7 (v := vi b.wa.hi) rfl
          have HE5 := Lib.hid (And.intro p1 (And.intro p2 p3))
          clear p1 p2 p3 p4 hbb
          cases t1 : inB b.drive (-100000) 100000 with
          | false =>
           rw [t1] at D1
           have hrf := HB.out b HBM.out.2 (by rw [hbd, t1]; simp)
           subst hrf
           clear t1 hbd
           go_wp2_with fail
           refine (D1.out _).mono ?_
           rintro e w6 ⟨rfl, rfl⟩
           go_wp2_with fail
           go_ret
           exact ⟨rfl, HE5.out.1⟩
          | true =>
           rw [t1] at D1
           cases t2 : inB b.normal 0 100000 with
           | false =>
            rw [t2] at D2
            have hrf := HB.out b HBM.out.2 (by rw [hbd, t1, t2]; simp)
            subst hrf
            clear t1 t2 hbd
            go_wp2_with fail
            refine (D1.out _).mono ?_
            rintro e w6 ⟨rfl, rfl⟩
            go_wp2_with fail
            refine (D2.out _).mono ?_
            rintro e w6 ⟨rfl, rfl⟩
            go_wp2_with fail
            go_ret
            exact ⟨rfl, HE5.out.1⟩
           | true =>
            rw [t2] at D2
            cases t3 : rgU b.fr 2000 with
            | false =>
             rw [t3] at D3
             have hrf := HB.out b HBM.out.2 (by rw [hbd, t1, t2, t3]; simp)
             subst hrf
             clear t1 t2 t3 hbd
             go_wp2_with fail
             refine (D1.out _).mono ?_
             rintro e w6 ⟨rfl, rfl⟩
             go_wp2_with fail
             refine (D2.out _).mono ?_
             rintro e w6 ⟨rfl, rfl⟩
             go_wp2_with fail
             refine (D3.out _).mono ?_
             rintro e v3 ⟨rfl, hb⟩
             have HF3 := Lib.hid (And.intro (And.intro (newer_trans HE5.out.1 hb) (And.intro (HE5.out.2.1.below hb HE5.out.2.1.lt) (newer_trans HE5.out.2.2 hb))) hb)
             clear hb
             have y4_3 := keep_cell z4 HF3.out.2
             have y5_3 := keep_cell z5 HF3.out.2
             have y6_3 := keep_cell z6 HF3.out.2
             have y7_3 := keep_cell z7 HF3.out.2
             go_wp2_with fail
             go_ret
             exact ⟨rfl, HF3.out.1.1⟩
            | true =>
             rw [t3] at D3
             cases t4 : rgU b.co 100000 with
             | false =>
              rw [t4] at D4
              have hrf := HB.out b HBM.out.2 (by rw [hbd, t1, t2, t3, t4]; simp)
              subst hrf
              clear t1 t2 t3 t4 hbd
              go_wp2_with fail
              refine (D1.out _).mono ?_
              rintro e w6 ⟨rfl, rfl⟩
              go_wp2_with fail
              refine (D2.out _).mono ?_
              rintro e w6 ⟨rfl, rfl⟩
              go_wp2_with fail
              refine (D3.out _).mono ?_
              rintro e v3 ⟨rfl, hb⟩
              have HF3 := Lib.hid (And.intro (And.intro (newer_trans HE5.out.1 hb) (And.intro (HE5.out.2.1.below hb HE5.out.2.1.lt) (newer_trans HE5.out.2.2 hb))) hb)
              clear hb
              have y4_3 := keep_cell z4 HF3.out.2
              have y5_3 := keep_cell z5 HF3.out.2
              have y6_3 := keep_cell z6 HF3.out.2
              have y7_3 := keep_cell z7 HF3.out.2
              go_wp2_with fail
              refine (D4.out _).mono ?_
              rintro e v4 ⟨rfl, hb⟩
              have HF4 := Lib.hid (And.intro (And.intro (newer_trans HF3.out.1.1 hb) (And.intro (HF3.out.1.2.1.below hb HF3.out.1.2.1.lt) (newer_trans HF3.out.1.2.2 hb))) (newer_trans HF3.out.2 hb))
              clear hb
              have y6_4 := keep_cell z6 HF4.out.2
              have y7_4 := keep_cell z7 HF4.out.2
              go_wp2_with fail
              go_ret
              exact ⟨rfl, HF4.out.1.1⟩
             | true =>
              rw [t4] at D4
              cases t5 : rgU b.wa 100000 with
              | false =>
               rw [t5] at D5
               have hrf := HB.out b HBM.out.2 (by rw [hbd, t1, t2, t3, t4, t5]; simp)
               subst hrf
               clear t1 t2 t3 t4 t5 hbd
               go_wp2_with fail
               refine (D1.out _).mono ?_
               rintro e w6 ⟨rfl, rfl⟩
               go_wp2_with fail
               refine (D2.out _).mono ?_
               rintro e w6 ⟨rfl, rfl⟩
               go_wp2_with fail
               refine (D3.out _).mono ?_
               rintro e v3 ⟨rfl, hb⟩
               have HF3 := Lib.hid (And.intro (And.intro (newer_trans HE5.out.1 hb) (And.intro (HE5.out.2.1.below hb HE5.out.2.1.lt) (newer_trans HE5.out.2.2 hb))) hb)
               clear hb
               have y4_3 := keep_cell z4 HF3.out.2
               have y5_3 := keep_cell z5 HF3.out.2
               have y6_3 := keep_cell z6 HF3.out.2
               have y7_3 := keep_cell z7 HF3.out.2
               go_wp2_with fail
               refine (D4.out _).mono ?_
               rintro e v4 ⟨rfl, hb⟩
               have HF4 := Lib.hid (And.intro (And.intro (newer_trans HF3.out.1.1 hb) (And.intro (HF3.out.1.2.1.below hb HF3.out.1.2.1.lt) (newer_trans HF3.out.1.2.2 hb))) (newer_trans HF3.out.2 hb))
               clear hb
               have y6_4 := keep_cell z6 HF4.out.2
               have y7_4 := keep_cell z7 HF4.out.2
               go_wp2_with fail
               refine (D5.out _).mono ?_
               rintro e v5 ⟨rfl, hb⟩
               have HF5 := Lib.hid (And.intro (And.intro (newer_trans HF4.out.1.1 hb) (And.intro (HF4.out.1.2.1.below hb HF4.out.1.2.1.lt) (newer_trans HF4.out.1.2.2 hb))) (newer_trans HF4.out.2 hb))
               clear hb
               go_wp2_with fail
               go_ret
               exact ⟨rfl, HF5.out.1.1⟩
              | true =>
               rw [t5] at D5
               have HN := Lib.hid (early_succ HE3.out.2.2.2 HBM.out.1 (show (!bdB b) = false by rw [hbd, t1, t2, t3, t4, t5]; rfl))
               clear t1 t2 t3 t4 t5 hbd
               go_wp2_with fail
               refine (D1.out _).mono ?_
               rintro e w6 ⟨rfl, rfl⟩
               go_wp2_with fail
               refine (D2.out _).mono ?_
               rintro e w6 ⟨rfl, rfl⟩
               go_wp2_with fail
               refine (D3.out _).mono ?_
               rintro e v3 ⟨rfl, hb⟩
               have HF3 := Lib.hid (And.intro (And.intro (newer_trans HE5.out.1 hb) (And.intro (HE5.out.2.1.below hb HE5.out.2.1.lt) (newer_trans HE5.out.2.2 hb))) hb)
               clear hb
               have y4_3 := keep_cell z4 HF3.out.2
               have y5_3 := keep_cell z5 HF3.out.2
               have y6_3 := keep_cell z6 HF3.out.2
               have y7_3 := keep_cell z7 HF3.out.2
               go_wp2_with fail
               refine (D4.out _).mono ?_
               rintro e v4 ⟨rfl, hb⟩
               have HF4 := Lib.hid (And.intro (And.intro (newer_trans HF3.out.1.1 hb) (And.intro (HF3.out.1.2.1.below hb HF3.out.1.2.1.lt) (newer_trans HF3.out.1.2.2 hb))) (newer_trans HF3.out.2 hb))
               clear hb
               have y6_4 := keep_cell z6 HF4.out.2
               have y7_4 := keep_cell z7 HF4.out.2
               go_wp2_with fail
               refine (D5.out _).mono ?_
               rintro e v5 ⟨rfl, hb⟩
               have HF5 := Lib.hid (And.intro (And.intro (newer_trans HF4.out.1.1 hb) (And.intro (HF4.out.1.2.1.below hb HF4.out.1.2.1.lt) (newer_trans HF4.out.1.2.2 hb))) (newer_trans HF4.out.2 hb))
               clear hb
               go_wp2_with fail
               refine ⟨⟨j + 1, by omega, rfl, HF5.out.1.1, HF5.out.1.2.1, HF5.out.1.2.2, HN.out⟩, ?_⟩
               simp [intOf]
               omega
         ·obtain rfl : j = x.beds.length := by omega
          have HC := Lib.hid (early_succ HE.out.2.2.2 HX.out (by rw [HBT.out HE3.out.2.2.2]; rfl))
          go_wp2_with fail
          refine ⟨⟨k + 1, by omega, rfl, HE3.out.1, HE3.out.2.1, HE3.out.2.2.1, HC.out⟩, ?_⟩
          simp [intOf]
          omega
      ·have hne : ((x.beds.length : Int) != n) = true := by simp; omega
       have hrf := HF.out.2.2.1 x HXM.out (by rw [hcp, q3, decide_eq_false hln]; rfl)
       subst hrf
       clear q3 hcp
       go_upto_region 6 with fail
       refine wp_words (by kernel_rfl) (region_told_u 21 (by kernel_rfl) (by kernel_rfl) [false, false, false, false, false, false, false, false, false, false, false, false, false, false, false, false, false, false, false, false, false] (fun W => Below wr.heap.size wr W) newer [vIs (.pointer (some ⟨w.heap.size, 0, none⟩)), vIs (.slice (some ⟨b1, o1, none⟩) s.cs.length s.c), vIs (.int .i64 k), vIs (.pointer (some ⟨b1, o1 + k, none⟩)), vIs (.slice x.a x.beds.length x.cp), vIs (.int .i64 x.beds.length), vIs (.bool true), vIs (.bool false), vIs (.bool false), vIs (.pointer (some ⟨w.heap.size, 0, none⟩)), vIs (.slice (some ⟨b1, o1, none⟩) s.cs.length s.c), vIs (.int .i64 k), vIs (.pointer (some ⟨b1, o1 + k, none⟩)), vIs (.slice x.a x.beds.length x.cp), vIs (.int .i64 x.beds.length), vIs (.pointer (some ⟨w.heap.size, 0, none⟩)), vIs (.slice (some ⟨b1, o1, none⟩) s.cs.length s.c), vIs (.pointer (some ⟨b1, o1, none⟩)), vIs (.slice y0.a n y0.cp), vIs (.int .i64 n), vIs (.bool true)] (by repeat' first | refine And.intro ?_ ?_ | exact trivial | exact rfl | (intro v W h; obtain rfl : v = _ := h; first | rfl | (simp; done) | (simp [undef]; done))) (by repeat' first | refine And.intro ?_ ?_ | exact trivial | exact (fun h => Bool.noConfusion (show false = true from h)) | exact (fun _ _ => rfl)) (fun h k => newer_trans h k) (pickD_stable _ (by repeat' first | refine And.intro ?_ ?_ | exact trivial | exact vIs_st)) (Below.refl _ wr).drew (Below.refl _ _) ?_ ?_)
       ·refine ⟨.inr ?_, .inr ?_, .inr ?_, .inr ?_, .inr ?_, .inr ?_, .inr ?_, .inr ?_, .inr ?_, .inr ?_, .inr ?_, .inr ?_, .inr ?_, .inr ?_, .inr ?_, .inr ?_, .inr ?_, .inr ?_, .inr ?_, .inr ?_, .inr ?_, trivial⟩
        ·intro a W hG hR hO hp; have h1 := hO.slot 1 (by kernel_rfl); refine wp_yields (v := .pointer (some ⟨w.heap.size, 0, none⟩)) ?_ ⟨_, rfl, rfl, Below.refl _ _, hG⟩; simp [slotOf] at h1; simp [execOp, go_sem, h1]
        ·intro a W hG hR hO hp; have h24 : slotOf a 24 = .pointer (some ⟨w.heap.size, 0, none⟩) := hp.1; have c0 := keep_cell x0 hG; refine wp_yields (v := .slice (some ⟨b1, o1, none⟩) s.cs.length s.c) ?_ ⟨_, rfl, rfl, Below.refl _ _, hG⟩; simp [slotOf] at h24; simp [execOp, go_sem, h24, c0]
        ·intro a W hG hR hO hp; have h3 := hO.slot 3 (by kernel_rfl); refine wp_yields (v := .int .i64 k) ?_ ⟨_, rfl, rfl, Below.refl _ _, hG⟩; simp [slotOf] at h3; simp [execOp, go_sem, h3]
        ·intro a W hG hR hO hp; have h25 : slotOf a 25 = .slice (some ⟨b1, o1, none⟩) s.cs.length s.c := hp.1; have h26 : slotOf a 26 = .int .i64 k := hp.2.1; refine wp_yields (v := .pointer (some ⟨b1, o1 + k, none⟩)) ?_ ⟨_, rfl, rfl, Below.refl _ _, hG⟩; simp [slotOf] at h25 h26; simp [execOp, go_sem, h25, h26, hki]
        ·intro a W hG hR hO hp; have h27 : slotOf a 27 = .pointer (some ⟨b1, o1 + k, none⟩) := hp.1; have c0 := keep_cell cx hG; refine wp_yields (v := .slice x.a x.beds.length x.cp) ?_ ⟨_, rfl, rfl, Below.refl _ _, hG⟩; simp [slotOf] at h27; simp [execOp, go_sem, h27, c0]
        ·intro a W hG hR hO hp; have h28 : slotOf a 28 = .slice x.a x.beds.length x.cp := hp.1; refine wp_yields (v := .int .i64 x.beds.length) ?_ ⟨_, rfl, rfl, Below.refl _ _, hG⟩; simp [slotOf] at h28; simp [go_sem, h28]
        ·intro a W hG hR hO hp
         have h29 : slotOf a 29 = .int .i64 x.beds.length := hp.1
         refine wp_enters (f := 20) (args := #[vi x.beds.length, vi 1, vi 5]) ?_ ((C3.out W).mono ?_)
         ·simp [slotOf] at h29
          simp [go_sem, h29]
         ·rintro e w' ⟨rfl, rfl⟩
          exact ⟨_, rfl, _, rfl, rfl, Below.refl _ _, hG⟩
        ·intro a W hG hR hO hp; have h30 : slotOf a 30 = .bool true := hp.1; refine wp_yields (v := .bool false) ?_ ⟨_, rfl, rfl, Below.refl _ _, hG⟩; simp [slotOf] at h30; simp [execOp, go_sem, h30]
        ·intro a W hG hR hO hp; have h31 : slotOf a 31 = .bool false := hp.1; refine wp_yields (v := .bool false) ?_ ⟨_, rfl, rfl, Below.refl _ _, hG⟩; simp [slotOf] at h31; simp [execOp, go_sem, h31]
        ·intro a W hG hR hO hp; have h1 := hO.slot 1 (by kernel_rfl); refine wp_yields (v := .pointer (some ⟨w.heap.size, 0, none⟩)) ?_ ⟨_, rfl, rfl, Below.refl _ _, hG⟩; simp [slotOf] at h1; simp [execOp, go_sem, h1]
        ·intro a W hG hR hO hp; have h33 : slotOf a 33 = .pointer (some ⟨w.heap.size, 0, none⟩) := hp.1; have c0 := keep_cell x0 hG; refine wp_yields (v := .slice (some ⟨b1, o1, none⟩) s.cs.length s.c) ?_ ⟨_, rfl, rfl, Below.refl _ _, hG⟩; simp [slotOf] at h33; simp [execOp, go_sem, h33, c0]
        ·intro a W hG hR hO hp; have h3 := hO.slot 3 (by kernel_rfl); refine wp_yields (v := .int .i64 k) ?_ ⟨_, rfl, rfl, Below.refl _ _, hG⟩; simp [slotOf] at h3; simp [execOp, go_sem, h3]
        ·intro a W hG hR hO hp; have h34 : slotOf a 34 = .slice (some ⟨b1, o1, none⟩) s.cs.length s.c := hp.1; have h35 : slotOf a 35 = .int .i64 k := hp.2.1; refine wp_yields (v := .pointer (some ⟨b1, o1 + k, none⟩)) ?_ ⟨_, rfl, rfl, Below.refl _ _, hG⟩; simp [slotOf] at h34 h35; simp [execOp, go_sem, h34, h35, hki]
        ·intro a W hG hR hO hp; have h36 : slotOf a 36 = .pointer (some ⟨b1, o1 + k, none⟩) := hp.1; have c0 := keep_cell cx hG; refine wp_yields (v := .slice x.a x.beds.length x.cp) ?_ ⟨_, rfl, rfl, Below.refl _ _, hG⟩; simp [slotOf] at h36; simp [execOp, go_sem, h36, c0]
        ·intro a W hG hR hO hp; have h37 : slotOf a 37 = .slice x.a x.beds.length x.cp := hp.1; refine wp_yields (v := .int .i64 x.beds.length) ?_ ⟨_, rfl, rfl, Below.refl _ _, hG⟩; simp [slotOf] at h37; simp [go_sem, h37]
        ·intro a W hG hR hO hp; have h1 := hO.slot 1 (by kernel_rfl); refine wp_yields (v := .pointer (some ⟨w.heap.size, 0, none⟩)) ?_ ⟨_, rfl, rfl, Below.refl _ _, hG⟩; simp [slotOf] at h1; simp [execOp, go_sem, h1]
        ·intro a W hG hR hO hp; have h39 : slotOf a 39 = .pointer (some ⟨w.heap.size, 0, none⟩) := hp.1; have c0 := keep_cell x0 hG; refine wp_yields (v := .slice (some ⟨b1, o1, none⟩) s.cs.length s.c) ?_ ⟨_, rfl, rfl, Below.refl _ _, hG⟩; simp [slotOf] at h39; simp [execOp, go_sem, h39, c0]
        ·intro a W hG hR hO hp; have h40 : slotOf a 40 = .slice (some ⟨b1, o1, none⟩) s.cs.length s.c := hp.1; refine wp_yields (v := .pointer (some ⟨b1, o1, none⟩)) ?_ ⟨_, rfl, rfl, Below.refl _ _, hG⟩; simp [slotOf] at h40; simp [execOp, go_sem, h40, hcne]
        ·intro a W hG hR hO hp; have h41 : slotOf a 41 = .pointer (some ⟨b1, o1, none⟩) := hp.1; have c0 := keep_cell cy hG; refine wp_yields (v := .slice y0.a n y0.cp) ?_ ⟨_, rfl, rfl, Below.refl _ _, hG⟩; simp [slotOf] at h41; simp [execOp, go_sem, h41, c0]
        ·intro a W hG hR hO hp; have h42 : slotOf a 42 = .slice y0.a n y0.cp := hp.1; refine wp_yields (v := .int .i64 n) ?_ ⟨_, rfl, rfl, Below.refl _ _, hG⟩; simp [slotOf] at h42; simp [go_sem, h42]
        ·intro a W hG hR hO hp; have h38 : slotOf a 38 = .int .i64 x.beds.length := hp.1; have h43 : slotOf a 43 = .int .i64 n := hp.2.1; refine wp_yields (v := .bool true) ?_ ⟨_, rfl, rfl, Below.refl _ _, hG⟩; simp [slotOf] at h38 h43; simp [execOp, go_sem, h38, h43, hne]
       ·intro W hG hR
        rintro _ rfl _ rfl _ rfl _ rfl _ rfl _ rfl _ rfl _ rfl _ rfl _ rfl _ rfl _ rfl _ rfl _ rfl _ rfl _ rfl _ rfl _ rfl _ rfl _ rfl _ rfl
        change wpList _ _ _ _ _ _
        simp only [Act.put, List.setIfInBounds_toArray, List.set_cons_zero, List.set_cons_succ, List.drop_succ_cons, List.drop_zero]
        have HE2 := Lib.hid (newer_trans HE.out.1 hG)
        clear hG hR cy cx x0
        go_wp2_with fail
        go_ret
        exact ⟨rfl, HE2.out⟩
    ·obtain rfl : k = s.cs.length := by omega
     have hrf := HT.out HE.out.2.2.2
     subst hrf
     go_wp2_with fail
     go_ret
     exact ⟨rfl, HE.out.1⟩
end

section
open Go.RowKit Go.Shelf Go.Deep
structure CvJ (s : Sm) (i : Nat) (xs : List Cl) (A : Option Addr) (c : Nat) (w W : World) : Prop where
 nw : newer w W
 xb : Whole W w.heap.size 38 (smC s)
 rb : Whole W (w.heap.size + 1) 46 #[.slice none 0 0, vi 0]
 ob : Whole W (w.heap.size + 1 + 1) 46 #[.slice A xs.length c, vi s.least]
 own : W.ownsRow w.heap.size 96 1 (.slice A xs.length c) xs.length (xs.flatMap clL)
 col : ∀ x ∈ xs, W.ownsRow w.heap.size 93 8 (.slice x.a x.beds.length x.cp) x.beds.length (x.beds.flatMap bdL)
 eq : xs.map (fun x => x.beds) = (s.cs.take i).map fun x => x.beds
 ln : xs.length = i
section
variable {s : Sm} {i : Nat} {xs : List Cl} {A : Option Addr} {c : Nat} {w W W' : World}
theorem CvJ.next (h : CvJ s i xs A c w W) (hb : newer W W') : CvJ s i xs A c w W' :=
 ⟨newer_trans h.nw hb, h.xb.below hb h.xb.lt, h.rb.below hb h.rb.lt, h.ob.below hb h.ob.lt, own_below h.own hb, fun x hx => own_below (h.col x hx) hb, h.eq, h.ln⟩
theorem CvJ.add (h : CvJ s i xs A c w W) {x y : Cl} (hx : s.cs[i]? = some x) (hy : y.beds = x.beds) (hc : W.ownsRow w.heap.size 93 8 (.slice y.a y.beds.length y.cp) y.beds.length (y.beds.flatMap bdL))
  {g2 c2 : Nat} (hown : W'.ownsRow w.heap.size 96 1 (.slice (some ⟨g2, 0, none⟩) (xs.length + 1) c2) (xs.length + 1) (xs.flatMap clL ++ [clV y])) (hw : (A = some ⟨g2, 0, none⟩ /\ c2 = c /\ W.grownBy W' (some g2)) ∨ (W.heap.size <= g2 /\ W.grownBy W' none)) :
  Whole W' (w.heap.size + 1 + 1) 46 #[.slice A xs.length c, vi s.least] /\ CvJ s (i + 1) (xs ++ [y]) (some ⟨g2, 0, none⟩) c2 w (W'.setCell ⟨w.heap.size + 1 + 1, 0, none⟩ (.slice (some ⟨g2, 0, none⟩) (xs.length + 1) c2)) := by
 have hgr : W.grownBy W' (Value.slice A xs.length c).ownBlock := by
  rcases hw with ⟨h1, _, h3⟩ | ⟨_, h3⟩
  ·rw [h1]; exact h3
  ·exact h3.but _
 have k1 := h.xb.grown hgr (fun e => own_ne h.own h.xb (by decide) e.symm)
 have k2 := h.rb.grown hgr (fun e => own_ne h.own h.rb (by decide) e.symm)
 have k3 := h.ob.grown hgr (fun e => own_ne h.own h.ob (by decide) e.symm)
 have k4 : ∀ z : Cl, W.ownsRow w.heap.size 93 8 (.slice z.a z.beds.length z.cp) z.beds.length (z.beds.flatMap bdL) -> W'.ownsRow w.heap.size 93 8 (.slice z.a z.beds.length z.cp) z.beds.length (z.beds.flatMap bdL) := fun z h2 => h2.kept hgr (own_apart h2 h.own (by decide))
 have hnw : newer w W' := by
  rcases hw with ⟨h1, _, h3⟩ | ⟨_, h3⟩
  ·refine Below.trans h.nw (below_of_grown h3 (own_ge h.own g2 (by rw [h1]; rfl)) h.nw.size)
  ·exact newer_trans h.nw (below_grown h3 (fun q e => by cases e) (Nat.le_refl _))
 refine ⟨k3, hnw.setCell (p := ⟨w.heap.size + 1 + 1, 0, none⟩) (by show w.heap.size <= w.heap.size + 1 + 1; omega) _, k1.far (p := ⟨w.heap.size + 1 + 1, 0, none⟩) (by show w.heap.size ≠ w.heap.size + 1 + 1; omega) _, k2.far (p := ⟨w.heap.size + 1 + 1, 0, none⟩) (by show w.heap.size + 1 ≠ w.heap.size + 1 + 1; omega) _, ?_, ?_, fun z hz => ?_, ?_, by rw [List.length_append, h.ln]; rfl⟩
 ·rw [List.length_append]
  exact k3.set 0 _
 ·rw [List.length_append, List.flatMap_append]
  exact own_set hown (own_ne hown k3 (by decide)) _
 ·rcases List.mem_append.1 hz with hz | hz
  ·have h3 := k4 z (h.col z hz)
   exact own_set h3 (own_ne h3 k3 (by decide)) _
  ·obtain rfl : z = y := List.mem_singleton.1 hz
   have h3 := k4 z hc
   exact own_set h3 (own_ne h3 k3 (by decide)) _
 ·rw [List.map_append, h.eq, List.take_add_one, hx, List.map_append]
  congr 1
  simp [hy]
theorem CvJ.done (h : CvJ s s.cs.length xs A c w W) (u v : Value) : SmOk ⟨xs, A, c, s.least⟩ ((W.setCell ⟨w.heap.size + 1, 0, none⟩ u).setCell ⟨w.heap.size + 1, 1, none⟩ v) /\ Sm.sd ⟨xs, A, c, s.least⟩ = s.sd /\ newer w ((W.setCell ⟨w.heap.size + 1, 0, none⟩ u).setCell ⟨w.heap.size + 1, 1, none⟩ v) /\ Whole ((W.setCell ⟨w.heap.size + 1, 0, none⟩ u).setCell ⟨w.heap.size + 1, 1, none⟩ v) (w.heap.size + 1) 46 #[u, v] := by
 refine ⟨⟨?_, fun x hx => ?_⟩, ?_, (h.nw.setCell (p := ⟨w.heap.size + 1, 0, none⟩) (Nat.le_succ _) u).setCell (p := ⟨w.heap.size + 1, 1, none⟩) (Nat.le_succ _) v, (h.rb.set 0 u).set 1 v⟩
 ·exact row_of_own (by omega) (fun _ => rfl) (own_set (own_set h.own (own_ne h.own h.rb (by decide)) u) (own_ne h.own h.rb (by decide)) v)
 ·have h2 := h.col x hx
  exact row_of_own (by omega) (fun _ => rfl) (own_set (own_set h2 (own_ne h2 h.rb (by decide)) u) (own_ne h2 h.rb (by decide)) v)
 ·have e := h.eq
  rw [List.take_length] at e
  show (⟨xs.map (fun x => x.beds), s.least⟩ : Sd) = ⟨s.cs.map fun x => x.beds, s.least⟩
  rw [e]
end
set_option maxRecDepth 100000 in
set_option maxHeartbeats 2000000 in
theorem lawSlope (s : Sm) (w : World) (hok : SmOk s w) (few : SmFew s) : Calls Try.prog 10 #[smV s] w fun e w' => ∃ s2 : Sm, e = .returned (smV s2) /\ s2.sd = s.sd /\ SmOk s2 w' /\ newer w w' := by
 have H0 : Hid (CvJ s 0 [] none 0 w (((w.alloc (.cells (smC s) 38)).alloc (.cells #[.slice none 0 0, vi 0] 46)).alloc (.cells #[.slice none 0 0, vi s.least] 46))) := Lib.hid (by
  have e1 := newer_allocH w (.cells (smC s) 38)
  have e2 := newer_allocH (w.alloc (.cells (smC s) 38)) (.cells #[.slice none 0 0, vi 0] 46)
  have e3 := newer_allocH ((w.alloc (.cells (smC s) 38)).alloc (.cells #[.slice none 0 0, vi 0] 46)) (.cells #[.slice none 0 0, vi s.least] 46)
  have a1 := Whole.made w 38 (smC s)
  have a2 := Whole.made (w.alloc (.cells (smC s) 38)) 46 #[.slice none 0 0, vi 0]
  have a3 := Whole.made ((w.alloc (.cells (smC s) 38)).alloc (.cells #[.slice none 0 0, vi 0] 46)) 46 #[.slice none 0 0, vi s.least]
  rw [World.size_alloc] at a2
  rw [World.size_alloc, World.size_alloc] at a3
  exact ⟨newer_trans (newer_trans e1 e2) e3, (a1.below e2 a1.lt).below e3 (by simp; omega), a2.below e3 a2.lt, a3, ⟨rfl, .inl ⟨rfl, rfl⟩⟩, fun x hx => by simp at hx, rfl, rfl⟩)
 have HOK := Lib.hid hok
 have HFW := Lib.hid few
 have hcl := few.cs
 obtain ⟨i0, hi0, hz0, hz1, hz2⟩ := info_parts info_col
 have HI := Lib.hid (And.intro hi0 (And.intro hz0 (And.intro hz1 hz2)))
 obtain ⟨i8, hj0, hy0, hy1, hy2⟩ := info_parts info_bd
 have HI8 := Lib.hid (And.intro hj0 (And.intro hy0 (And.intro hy1 hy2)))
 have x1 := H0.out.xb.at 1 (v := vi s.least) rfl
 clear hok few hi0 hz0 hz1 hz2 hj0 hy0 hy1 hy2
 go_enter Try.func10, Try.ntmps10
 go_wp2_with fail
 clear x1
 go_loopw [4] (fun s4 wr => ∃ (i : Nat) (xs : List Cl) (A : Option Addr) (c : Nat), i <= s.cs.length /\ s4 = vi i /\ CvJ s i xs A c w wr) (fun s4 _ => s.cs.length - (intOf s4).toNat)
 case atStart => exact ⟨0, [], none, 0, Nat.zero_le _, rfl, H0.out⟩
 case round =>
  obtain ⟨i, xs, A, c, hi, rfl, hj⟩ := hrel
  clear H0
  have HJ := Lib.hid hj
  have x0 := hj.xb.at 0 (v := .slice s.a s.cs.length s.c) rfl
  clear hj
  obtain ⟨wo, rfl⟩ : ∃ wo : World, wo = wr := ⟨_, rfl⟩
  by_cases hlt : i < s.cs.length
  ·obtain ⟨x, hx⟩ := get_of_lt hlt
   have hxn := HFW.out.bd x (List.mem_of_getElem? hx)
   have HX := Lib.hid (And.intro hx (List.mem_of_getElem? hx))
   obtain ⟨b1, o1, ea, _, cx⟩ := rowC (HOK.out.next HJ.out.nw).cs hx
   have HEA := Lib.hid (And.intro ea cx)
   clear hx cx ea
   go_wp2_with fail
   go_loopw [5, 6] (fun s5 s6 wr => ∃ (j : Nat) (A2 : Option Addr) (c2 : Nat), j <= x.beds.length /\ s6 = vi j /\ s5 = .slice A2 j c2 /\ newer wo wr /\ wr.ownsRow wo.heap.size 93 8 (.slice A2 j c2) j ((x.beds.take j).flatMap bdL)) (fun _ s6 _ => x.beds.length - (intOf s6).toNat)
   case atStart => exact ⟨0, none, 0, Nat.zero_le _, rfl, rfl, Below.refl _ _, ⟨rfl, .inl ⟨rfl, rfl⟩⟩⟩
   case round =>
    obtain ⟨j, A2, c2, hj, rfl, rfl, q1, q2⟩ := hrel
    clear x0
    have hj2 := HJ.out.next q1
    have HJ2 := Lib.hid hj2
    have x0 := hj2.xb.at 0 (v := .slice s.a s.cs.length s.c) rfl
    rw [HEA.out.1] at x0
    have cx := keep_cell HEA.out.2 q1
    have hii : (i : Int) < s.cs.length := by omega
    have HQ := Lib.hid (And.intro q1 q2)
    clear hj2 q1 q2
    by_cases hlt2 : j < x.beds.length
    ·obtain ⟨b, hb⟩ := get_of_lt hlt2
     obtain ⟨b4, o4, e4, _, d0, d1, d2, d3, d4, d5, d6, d7⟩ := row8 ((HOK.out.next HJ2.out.nw).bd x HX.out.2) hb
     rw [e4] at cx
     have hji : (j : Int) < x.beds.length := by omega
     have HB := Lib.hid hb
     have e5 := newer_allocH wr (.cells (bdC b) 83)
     have HE4 := Lib.hid (And.intro (newer_trans HQ.out.1 e5) (And.intro (own_below HQ.out.2 e5) (Whole.made wr 83 (bdC b))))
     clear hb e4 e5
     go_upto_region 10 with fail
     refine genQ (fun X => newer wo X /\ X.ownsRow wo.heap.size 93 8 (.slice A2 j c2) j ((x.beds.take j).flatMap bdL) /\ Whole X wr.heap.size 83 (bdC b)) HE4.out ?_
     clear HE4 d0 d1 d2 d3 d4 d5 d6 d7 cx x0
     obtain ⟨bb, hbb⟩ : ∃ bb, bb = wr.heap.size := ⟨_, rfl⟩
     rw [<- hbb]
     rintro w5 ⟨p1, p2, p4⟩
     have z0 := p4.at 0 (v := vi b.drive) rfl
     have z1 := p4.at 1 (v := vi b.normal) rfl
     have z2 := p4.at 2 (v := vi b.fr.lo) rfl
     have z3 := p4.at 3 (v := vi b.fr.hi) rfl
     have z4 := p4.at 4 (v := vi b.co.lo) rfl
     have z5 := p4.at 5 (v := vi b.co.hi) rfl
     have z6 := p4.at 6 (v := vi b.wa.lo) rfl
     have z7 := p4.at 7 (v := vi b.wa.hi) rfl
     have HE5 := Lib.hid (And.intro p1 p2)
     clear p1 p2 p4 hbb
     refine wp_words (by kernel_rfl) (region_told 16 (by kernel_rfl) (by kernel_rfl) (fun W => Below w5.heap.size w5 W) newer (pickD [vIs (.slice A2 j c2), vIs (.pointer (some ⟨bb, 0, none⟩)), vIs (vi b.drive), vIs (.pointer (some ⟨bb, 1, none⟩)), vIs (vi b.normal), vIs (.pointer (some ⟨bb, 2, none⟩)), vIs (rgV b.fr), vIs (rgV b.fr), vIs (.pointer (some ⟨bb, 4, none⟩)), vIs (rgV b.co), vIs (rgV b.co), vIs (.pointer (some ⟨bb, 6, none⟩)), vIs (rgV b.wa), vIs (rgV b.wa), vIs (bdV b), vOne w5.heap.size 93 (bdC b)]) (fun h k => newer_trans h k) (pickD_stable _ ⟨vIs_st, vIs_st, vIs_st, vIs_st, vIs_st, vIs_st, vIs_st, vIs_st, vIs_st, vIs_st, vIs_st, vIs_st, vIs_st, vIs_st, vIs_st, vOne_st, trivial⟩) (Below.refl _ w5).drew (Below.refl _ _) ?_ ?_)
     ·refine ⟨?_, ?_, ?_, ?_, ?_, ?_, ?_, ?_, ?_, ?_, ?_, ?_, ?_, ?_, ?_, ?_, trivial⟩
      ·intro a W hG hR hO hp; have h5 := hO.slot 5 (by kernel_rfl); refine wp_yields (v := .slice A2 j c2) ?_ ⟨_, rfl, rfl, Below.refl _ _, hG⟩; simp [slotOf] at h5; simp [execOp, go_sem, h5]
      ·intro a W hG hR hO hp; have h7 := hO.slot 7 (by kernel_rfl); refine wp_yields (v := .pointer (some ⟨bb, 0, none⟩)) ?_ ⟨_, rfl, rfl, Below.refl _ _, hG⟩; simp [slotOf] at h7; simp [execOp, go_sem, h7]
      ·intro a W hG hR hO hp; have h37 : slotOf a 37 = .pointer (some ⟨bb, 0, none⟩) := hp.1; have c0 := keep_cell z0 hG; refine wp_yields (v := vi b.drive) ?_ ⟨_, rfl, rfl, Below.refl _ _, hG⟩; simp [slotOf] at h37; simp [execOp, go_sem, h37, c0]
      ·intro a W hG hR hO hp; have h7 := hO.slot 7 (by kernel_rfl); refine wp_yields (v := .pointer (some ⟨bb, 1, none⟩)) ?_ ⟨_, rfl, rfl, Below.refl _ _, hG⟩; simp [slotOf] at h7; simp [execOp, go_sem, h7]
      ·intro a W hG hR hO hp; have h39 : slotOf a 39 = .pointer (some ⟨bb, 1, none⟩) := hp.1; have c0 := keep_cell z1 hG; refine wp_yields (v := vi b.normal) ?_ ⟨_, rfl, rfl, Below.refl _ _, hG⟩; simp [slotOf] at h39; simp [execOp, go_sem, h39, c0]
      ·intro a W hG hR hO hp; have h7 := hO.slot 7 (by kernel_rfl); refine wp_yields (v := .pointer (some ⟨bb, 2, none⟩)) ?_ ⟨_, rfl, rfl, Below.refl _ _, hG⟩; simp [slotOf] at h7; simp [execOp, go_sem, h7]
      ·intro a W hG hR hO hp; have h41 : slotOf a 41 = .pointer (some ⟨bb, 2, none⟩) := hp.1; have c0 := keep_cell z2 hG; have c1 := keep_cell z3 hG; refine wp_yields (v := rgV b.fr) ?_ ⟨_, rfl, rfl, Below.refl _ _, hG⟩; simp [slotOf] at h41; simp [execOp, go_sem, h41, c0, c1]
      ·intro a W hG hR hO hp
       have h42 : slotOf a 42 = rgV b.fr := hp.1
       refine wp_enters (f := 26) (args := #[rgV b.fr]) ?_ ((to_any b.fr W).mono ?_)
       ·simp [slotOf] at h42
        simp [go_sem, h42]
       ·rintro e w' ⟨rfl, hb⟩
        exact ⟨_, rfl, _, rfl, rfl, hb, below_next hG hb⟩
      ·intro a W hG hR hO hp; have h7 := hO.slot 7 (by kernel_rfl); refine wp_yields (v := .pointer (some ⟨bb, 4, none⟩)) ?_ ⟨_, rfl, rfl, Below.refl _ _, hG⟩; simp [slotOf] at h7; simp [execOp, go_sem, h7]
      ·intro a W hG hR hO hp; have h44 : slotOf a 44 = .pointer (some ⟨bb, 4, none⟩) := hp.1; have c0 := keep_cell z4 hG; have c1 := keep_cell z5 hG; refine wp_yields (v := rgV b.co) ?_ ⟨_, rfl, rfl, Below.refl _ _, hG⟩; simp [slotOf] at h44; simp [execOp, go_sem, h44, c0, c1]
      ·intro a W hG hR hO hp
       have h45 : slotOf a 45 = rgV b.co := hp.1
       refine wp_enters (f := 26) (args := #[rgV b.co]) ?_ ((to_any b.co W).mono ?_)
       ·simp [slotOf] at h45
        simp [go_sem, h45]
       ·rintro e w' ⟨rfl, hb⟩
        exact ⟨_, rfl, _, rfl, rfl, hb, below_next hG hb⟩
      ·intro a W hG hR hO hp; have h7 := hO.slot 7 (by kernel_rfl); refine wp_yields (v := .pointer (some ⟨bb, 6, none⟩)) ?_ ⟨_, rfl, rfl, Below.refl _ _, hG⟩; simp [slotOf] at h7; simp [execOp, go_sem, h7]
      ·intro a W hG hR hO hp; have h47 : slotOf a 47 = .pointer (some ⟨bb, 6, none⟩) := hp.1; have c0 := keep_cell z6 hG; have c1 := keep_cell z7 hG; refine wp_yields (v := rgV b.wa) ?_ ⟨_, rfl, rfl, Below.refl _ _, hG⟩; simp [slotOf] at h47; simp [execOp, go_sem, h47, c0, c1]
      ·intro a W hG hR hO hp
       have h48 : slotOf a 48 = rgV b.wa := hp.1
       refine wp_enters (f := 26) (args := #[rgV b.wa]) ?_ ((to_any b.wa W).mono ?_)
       ·simp [slotOf] at h48
        simp [go_sem, h48]
       ·rintro e w' ⟨rfl, hb⟩
        exact ⟨_, rfl, _, rfl, rfl, hb, below_next hG hb⟩
      ·intro a W hG hR hO hp; have h38 : slotOf a 38 = vi b.drive := hp.1; have h40 : slotOf a 40 = vi b.normal := hp.2.1; have h43 : slotOf a 43 = rgV b.fr := hp.2.2.1; have h46 : slotOf a 46 = rgV b.co := hp.2.2.2.1; have h49 : slotOf a 49 = rgV b.wa := hp.2.2.2.2.1; refine wp_yields (v := bdV b) ?_ ⟨_, rfl, rfl, Below.refl _ _, hG⟩; simp [slotOf] at h38 h40 h43 h46 h49; simp [execOp, go_sem, h38, h40, h43, h46, h49]
      ·intro a W hG hR hO hp; have h50 : slotOf a 50 = bdV b := hp.1; refine wp_makes (v := .slice (some ⟨W.heap.size, 0, none⟩) 1 1) (W' := W.alloc (.cells (bdC b) 93)) ?_ ⟨_, rfl, ⟨_, rfl, hG.size, Whole.made _ _ _⟩, newer_allocH _ _, below_next hG (newer_allocH _ _)⟩; simp [slotOf] at h50; simp [execOp, go_sem, h50]
     ·intro wz hG hR
      rintro _ rfl _ rfl _ rfl _ rfl _ rfl _ rfl _ rfl _ rfl _ rfl _ rfl _ rfl _ rfl _ rfl _ rfl _ rfl _ ⟨nb, rfl, hnb, hW⟩
      change wpList _ _ _ _ _ _
      simp only [Act.put, List.setIfInBounds_toArray, List.set_cons_zero, List.set_cons_succ, List.drop_succ_cons, List.drop_zero]
      have HO := Lib.hid (own_below HE5.out.2 hG)
      have HN := Lib.hid (newer_trans HE5.out.1 hG)
      have HWN := Lib.hid (World.news_of_block hW)
      clear hG hR hW z0 z1 z2 z3 z4 z5 z6 z7
      go_wp2_with (at_builtin; go_loud ((refine wpList_append_lies _ rfl (.tmp 36) (.tmp 51) 96 rfl wo.heap.size 93 i8 (.agg #[vi 0, vi 0, vi 0, vi 0, vi 0, vi 0, vi 0, vi 0]) 8 64 Try.underlying96 HI8.out.1 HI8.out.2.1 HI8.out.2.2.1 HI8.out.2.2.2 rfl (by omega) _ j _ rfl HO.out ⟨nb, 0, none⟩ 1 1 (bdL b) rfl rfl HWN.out (by simp [Value.oneCell']) (by omega) (by unfold maxLen; omega) (by omega) HN.out.size wz.heap.size rfl ?_); intro gg cp2 w2 hown2 hgrow2 hat2 hlt3; rw [<- take_flat bdL _ j b HB.out] at hown2; have HE := Lib.hid (And.intro hown2 (And.intro hgrow2 (own_ge HO.out))); clear hown2 hgrow2 hat2 hlt3))
      refine ⟨⟨j + 1, some ⟨gg, 0, none⟩, cp2, by omega, rfl, rfl, ?_, HE.out.1⟩, ?_⟩
      ·exact below_grown (grown_trans' (grown_of_newer HN.out _) HE.out.2.1) HE.out.2.2 (Nat.le_refl _)
      ·simp [intOf]
       omega
    ·obtain rfl : j = x.beds.length := by omega
     have hown := HQ.out.2
     rw [List.take_of_length_le (Nat.le_refl _)] at hown
     obtain ⟨y, hy⟩ : ∃ y : Cl, y = ⟨x.beds, A2, c2⟩ := ⟨_, rfl⟩
     have hn1 := newer_allocH wr (.cells #[.slice A2 x.beds.length c2] 96)
     have hcy : clV y = .slice A2 x.beds.length c2 := by rw [hy]
     have HADD := Lib.hid (fun g2 c3 w5 => (HJ2.out.next hn1).add (W' := w5) HX.out.1 (y := y) (by rw [hy]) (by rw [hy]; exact own_more (own_below hown hn1) HJ.out.nw.size) (g2 := g2) (c2 := c3))
     have HJ3 := Lib.hid (HJ2.out.next hn1)
     have HXS := Lib.hid (show xs.length <= 1000 by have := HJ.out.ln; omega)
     have HCW : Hid ((wr.alloc (.cells #[.slice A2 x.beds.length c2] 96)).cell? ⟨wr.heap.size, 0, none⟩ = some (.slice A2 x.beds.length c2)) := Lib.hid ((Whole.made wr 96 #[.slice A2 x.beds.length c2]).at 0 rfl)
     rw [hcy] at HADD
     have o0 := HJ2.out.ob.at 0 (v := .slice A xs.length c) rfl
     clear hown hn1 hcy hy
     go_wp2_with (at_builtin; go_loud ((refine wpList_plain rfl fun _ hK => wp_append_one (.tmp 54) (.tmp 56) 44 rfl w.heap.size 96 i0 (.slice none 0 0) 24 Try.underlying44 HI.out.1 HI.out.2.1 HI.out.2.2.1 HI.out.2.2.2 rfl A xs.length c (xs.flatMap clL) rfl HJ3.out.own ⟨wr.heap.size, 0, none⟩ 1 (.slice A2 x.beds.length c2) rfl HCW.out rfl (by have := HXS.out; unfold maxLen; omega) (by have := HXS.out; omega) HJ3.out.nw.size fun g2 c3 w5 hown hwh => hK _ _ ?_); have HE := Lib.hid (HADD.out g2 c3 w5 hown hwh); have p0 := HE.out.1.at 0 (v := .slice A xs.length c) rfl; have pf0 := HE.out.1.free 0; clear hown hwh))
     refine ⟨⟨i + 1, xs ++ [y], some ⟨g2, 0, none⟩, c3, by omega, rfl, HE.out.2⟩, ?_⟩
     simp [intOf]
     omega
  ·obtain rfl : i = s.cs.length := by omega
   have o0 := HJ.out.ob.at 0 (v := .slice A xs.length c) rfl
   have o1 := HJ.out.ob.at 1 (v := vi s.least) rfl
   have r0 := HJ.out.rb.at 0 (v := .slice none 0 0) rfl
   have r1 := HJ.out.rb.at 1 (v := vi 0) rfl
   have f0 := HJ.out.rb.free 0
   have f1 := HJ.out.rb.free 1
   have HF := Lib.hid (HJ.out.done (.slice A xs.length c) (vi s.least))
   have z0 := HF.out.2.2.2.at 0 (v := .slice A xs.length c) rfl
   have z1 := HF.out.2.2.2.at 1 (v := vi s.least) rfl
   go_wp2_with fail
   exact bodyPost_ret (v := .agg #[.slice A xs.length c, vi s.least]) (by simp [results, Try.results10, go_sem, z0, z1]) rfl ⟨⟨xs, A, c, s.least⟩, rfl, HF.out.2.1, HF.out.1, HF.out.2.2.1⟩
end

section
open Go.RowKit Go.Shelf Go.Deep
def vLis (B : Nat) (l : List Int) (v : Value) (W : World) : Prop := ∃ A c, v = .slice A l.length c /\ Row intL 1 W W.heap.size A l /\ ∀ a, A = some a -> B <= a.block
theorem vLis_st {B : Nat} {l : List Int} : ∀ v W W', vLis B l v W -> newer W W' -> vLis B l v W' := fun _ _ _ ⟨A, c, h1, h2, h3⟩ hb => ⟨A, c, h1, (h2.below hb).more hb.size, h3⟩
def vSur (B : Nat) (frm : Int) (l : List Int) (v : Value) (W : World) : Prop := ∃ A c, v = .agg #[vi frm, .slice A l.length c] /\ Row intL 1 W W.heap.size A l /\ ∀ a, A = some a -> B <= a.block
theorem vSur_st {B : Nat} {frm : Int} {l : List Int} : ∀ v W W', vSur B frm l v W -> newer W W' -> vSur B frm l v W' := fun _ _ _ ⟨A, c, h1, h2, h3⟩ hb => ⟨A, c, h1, (h2.below hb).more hb.size, h3⟩
theorem row_far {W : World} {B : Nat} {A : Option Addr} {l : List Int} {b i : Nat} (h : Row intL 1 W B A l) (hne : ∀ a, A = some a -> l ≠ [] -> a.block ≠ b) (u : Value) : Row intL 1 (W.setCell ⟨b, i, none⟩ u) B A l := by
 intro hl
 obtain ⟨g, off, e, hb, hc⟩ := h hl
 refine ⟨g, off, e, hb, fun k x hk j v hj => ?_⟩
 have h1 := hne _ e hl
 have e2 : (W.setCell ⟨b, i, none⟩ u).heap[g]? = W.heap[g]? := Below.heap_setCell W ⟨b, i, none⟩ u g h1
 exact (cell_of_same e2 _).trans (hc k x hk j v hj)
set_option maxRecDepth 100000 in
set_option maxHeartbeats 2000000 in
theorem lawSurface (u : Su) (w : World) (hu : SuOk u w) (hul : u.beds.length <= 1000) : Calls Try.prog 15 #[suV u] w fun e w' => ∃ u2 : Su, e = .returned (suV u2) /\ u2.frm = u.frm /\ u2.beds = u.beds /\ SuOk u2 w' /\ newer w w' := by
 have e1 := newer_allocH w (.cells (suC u) 57)
 have e2 := newer_allocH (w.alloc (.cells (suC u) 57)) (.cells #[vi 0, .slice none 0 0] 40)
 have a1 := Whole.made w 57 (suC u)
 have a2 := Whole.made (w.alloc (.cells (suC u) 57)) 40 #[vi 0, .slice none 0 0]
 rw [World.size_alloc] at a2
 have H0 := Lib.hid (And.intro (newer_trans e1 e2) (And.intro (a1.below e2 a1.lt) a2))
 have HUW := Lib.hid (hu.next (newer_trans e1 e2))
 clear e1 e2 a1 a2 hu
 go_enter Try.func15, Try.ntmps15
 go_upto_region 1 with fail
 refine genQ (fun X => newer w X /\ Whole X w.heap.size 57 (suC u) /\ Whole X (w.heap.size + 1) 40 #[vi 0, .slice none 0 0] /\ SuOk u X) ⟨H0.out.1, H0.out.2.1, H0.out.2.2, HUW.out⟩ ?_
 clear H0 HUW
 rintro w2 ⟨p1, p2, p3, p4⟩
 have u0 := p2.at 0 (v := vi u.frm) rfl
 have u1 := p2.at 1 (v := .slice u.a u.beds.length u.c) rfl
 have HU := Lib.hid (show Row intL 1 w2 w2.heap.size u.a u.beds from p4)
 have H2 := Lib.hid (And.intro p1 p3)
 clear p1 p2 p3 p4
 refine wp_words (by kernel_rfl) (region_told 6 (by kernel_rfl) (by kernel_rfl) (fun W => Below w2.heap.size w2 W) newer (pickD [vIs (.pointer (some ⟨w.heap.size, 0, none⟩)), vIs (vi u.frm), vIs (.pointer (some ⟨w.heap.size, 1, none⟩)), vIs (.slice u.a u.beds.length u.c), vLis w2.heap.size u.beds, vSur w2.heap.size u.frm u.beds]) (fun h k => newer_trans h k) (pickD_stable _ ⟨vIs_st, vIs_st, vIs_st, vIs_st, vLis_st, vSur_st, trivial⟩) (Below.refl _ w2).drew (Below.refl _ _) ?_ ?_)
 ·refine ⟨?_, ?_, ?_, ?_, ?_, ?_, trivial⟩
  ·intro a W hG hR hO hp; have h1 := hO.slot 1 (by kernel_rfl); refine wp_yields (v := .pointer (some ⟨w.heap.size, 0, none⟩)) ?_ ⟨_, rfl, rfl, Below.refl _ _, hG⟩; simp [slotOf] at h1; simp [execOp, go_sem, h1]
  ·intro a W hG hR hO hp; have h3 : slotOf a 3 = .pointer (some ⟨w.heap.size, 0, none⟩) := hp.1; have c0 := keep_cell u0 hG; refine wp_yields (v := vi u.frm) ?_ ⟨_, rfl, rfl, Below.refl _ _, hG⟩; simp [slotOf] at h3; simp [execOp, go_sem, h3, c0]
  ·intro a W hG hR hO hp; have h1 := hO.slot 1 (by kernel_rfl); refine wp_yields (v := .pointer (some ⟨w.heap.size, 1, none⟩)) ?_ ⟨_, rfl, rfl, Below.refl _ _, hG⟩; simp [slotOf] at h1; simp [execOp, go_sem, h1]
  ·intro a W hG hR hO hp; have h5 : slotOf a 5 = .pointer (some ⟨w.heap.size, 1, none⟩) := hp.1; have c0 := keep_cell u1 hG; refine wp_yields (v := .slice u.a u.beds.length u.c) ?_ ⟨_, rfl, rfl, Below.refl _ _, hG⟩; simp [slotOf] at h5; simp [execOp, go_sem, h5, c0]
  ·intro a W hG hR hO hp
   have h6 : slotOf a 6 = .slice u.a u.beds.length u.c := hp.1
   refine wp_enters (f := 37) (args := #[.slice u.a u.beds.length u.c]) ?_ ((lawList u.beds u.a u.c W hul ((HU.out.below hG).more hG.size)).mono ?_)
   ·simp [slotOf] at h6
    simp [go_sem, h6]
   ·rintro e w' ⟨A, c, rfl, _, hr, hb, hge⟩
    exact ⟨_, rfl, _, rfl, ⟨A, c, rfl, hr, fun a e => Nat.le_trans hG.size (hge a e)⟩, hb, below_next hG hb⟩
  ·intro a W hG hR hO hp; have h4 : slotOf a 4 = vi u.frm := hp.1; have h7 := hp.2.1; obtain ⟨A, c, h7, hrow, hge⟩ := h7; refine wp_yields (v := .agg #[vi u.frm, .slice A u.beds.length c]) ?_ ⟨_, rfl, ⟨A, c, rfl, hrow, hge⟩, Below.refl _ _, hG⟩; simp [slotOf] at h4 h7; simp [execOp, go_sem, h4, h7]
 ·intro wz hG hR
  rintro _ rfl _ rfl _ rfl _ rfl _ - _ ⟨A, c, rfl, hrow, hge⟩
  change wpList _ _ _ _ _ _
  simp only [Act.put, List.setIfInBounds_toArray, List.set_cons_zero, List.set_cons_succ, List.drop_succ_cons, List.drop_zero]
  have hr := H2.out.2.below hG H2.out.2.lt
  have r0 := hr.at 0 (v := vi 0) rfl
  have r1 := hr.at 1 (v := .slice none 0 0) rfl
  have f0 := hr.free 0
  have f1 := hr.free 1
  have hset := (hr.set 0 (vi u.frm)).set 1 (.slice A u.beds.length c)
  have z0 := hset.at 0 (v := vi u.frm) rfl
  have z1 := hset.at 1 (v := .slice A u.beds.length c) rfl
  have HF : Hid (Row intL 1 ((wz.setCell ⟨w.heap.size + 1, 0, none⟩ (vi u.frm)).setCell ⟨w.heap.size + 1, 1, none⟩ (.slice A u.beds.length c)) ((wz.setCell ⟨w.heap.size + 1, 0, none⟩ (vi u.frm)).setCell ⟨w.heap.size + 1, 1, none⟩ (.slice A u.beds.length c)).heap.size A u.beds /\ newer w ((wz.setCell ⟨w.heap.size + 1, 0, none⟩ (vi u.frm)).setCell ⟨w.heap.size + 1, 1, none⟩ (.slice A u.beds.length c))) := Lib.hid (by
   have hl := H2.out.2.lt
   have hne : ∀ a, A = some a -> u.beds ≠ [] -> a.block ≠ w.heap.size + 1 := fun a e _ => by have := hge a e; omega
   refine ⟨?_, ((newer_trans H2.out.1 hG).setCell (p := ⟨w.heap.size + 1, 0, none⟩) (Nat.le_succ _) _).setCell (p := ⟨w.heap.size + 1, 1, none⟩) (Nat.le_succ _) _⟩
   exact (row_far (row_far hrow hne _) hne _).more (by simp))
  clear hr hset hrow hge hG hR u0 u1
  go_wp2_with fail
  exact bodyPost_ret (v := .agg #[vi u.frm, .slice A u.beds.length c]) (by simp [results, Try.results15, go_sem, z0, z1]) rfl ⟨⟨u.frm, u.beds, A, c⟩, rfl, rfl, rfl, HF.out.1, HF.out.2⟩
end

section
open Go.RowKit Go.Shelf Go.Deep
def zeroX : Array Value := #[vi 0, vi 0, vi 0, vi 0, vi 0, vi 0, vi 0, vi 0]
theorem put8 {W : World} {g : Nat} {t : TypeId} (h : Whole W g t zeroX) (bd : Bd) : Whole ((((((((W.setCell ⟨g, 0, none⟩ (vi bd.drive)).setCell ⟨g, 1, none⟩ (vi bd.normal)).setCell ⟨g, 2, none⟩ (vi bd.fr.lo)).setCell ⟨g, 3, none⟩ (vi bd.fr.hi)).setCell ⟨g, 4, none⟩ (vi bd.co.lo)).setCell ⟨g, 5, none⟩ (vi bd.co.hi)).setCell ⟨g, 6, none⟩ (vi bd.wa.lo)).setCell ⟨g, 7, none⟩ (vi bd.wa.hi)) g t (bdC bd) := by
 have h8 := ((((((((h.set 0 (vi bd.drive)).set 1 (vi bd.normal)).set 2 (vi bd.fr.lo)).set 3 (vi bd.fr.hi)).set 4 (vi bd.co.lo)).set 5 (vi bd.co.hi)).set 6 (vi bd.wa.lo)).set 7 (vi bd.wa.hi))
 simpa only [zeroX, List.setIfInBounds_toArray, List.set_cons_zero, List.set_cons_succ] using h8
theorem put8_grown (W : World) (g : Nat) (bd : Bd) : W.grownBy ((((((((W.setCell ⟨g, 0, none⟩ (vi bd.drive)).setCell ⟨g, 1, none⟩ (vi bd.normal)).setCell ⟨g, 2, none⟩ (vi bd.fr.lo)).setCell ⟨g, 3, none⟩ (vi bd.fr.hi)).setCell ⟨g, 4, none⟩ (vi bd.co.lo)).setCell ⟨g, 5, none⟩ (vi bd.co.hi)).setCell ⟨g, 6, none⟩ (vi bd.wa.lo)).setCell ⟨g, 7, none⟩ (vi bd.wa.hi)) (some g) := grown_set (p := ⟨g, 7, none⟩) (grown_set (p := ⟨g, 6, none⟩) (grown_set (p := ⟨g, 5, none⟩) (grown_set (p := ⟨g, 4, none⟩) (grown_set (p := ⟨g, 3, none⟩) (grown_set (p := ⟨g, 2, none⟩) (grown_set (p := ⟨g, 1, none⟩) (grown_set (p := ⟨g, 0, none⟩) (grown_refl W _) (.inl rfl) _) (.inl rfl) _) (.inl rfl) _) (.inl rfl) _) (.inl rfl) _) (.inl rfl) _) (.inl rfl) _) (.inl rfl) _
end

section
open Go.RowKit Go.Shelf Go.Deep
theorem info_rl101 : (Try.prog.info? 95).map (fun i => (i.zero, i.size, i.bytes)) = some (some (.agg #[vi 0, vi 0, vi 0]), 3, 24) := by kernel_rfl
set_option maxRecDepth 100000 in
set_option maxHeartbeats 1000000 in
theorem lawTruth (tl : List Rl) (A : Option Addr) (c : Nat) (w : World) (hl : tl.length <= 1000) (hr : Row rlL 3 w w.heap.size A tl) : Calls Try.prog 16 #[.slice A tl.length c] w fun e w' => ∃ B d, e = .returned (.slice B tl.length d) /\ Row rlL 3 w' w'.heap.size B tl /\ newer w w' := by
 have HR := Lib.hid hr
 obtain ⟨i8, hj0, hy0, hy1, hy2⟩ := info_parts info_rl101
 have HI8 := Lib.hid (And.intro hj0 (And.intro hy0 (And.intro hy1 hy2)))
 clear hr hj0 hy0 hy1 hy2
 go_enter Try.func16, Try.ntmps16
 go_wp2_with fail
 go_loopw [3, 4] (fun s3 s4 wr => ∃ (k : Nat) (B : Option Addr) (d : Nat), s4 = vi k /\ k <= tl.length /\ s3 = .slice B k d /\ newer w wr /\ wr.ownsRow w.heap.size 95 3 (.slice B k d) k ((tl.take k).flatMap rlL)) (fun _ s4 _ => tl.length - (intOf s4).toNat)
 case atStart => exact ⟨0, none, 0, rfl, Nat.zero_le _, rfl, newer_refl _, ⟨rfl, .inl ⟨rfl, rfl⟩⟩⟩
 case round =>
  obtain ⟨k, B, d, rfl, hk, rfl, hn, hown⟩ := hrel
  have HQ := Lib.hid (And.intro hn hown)
  clear hn hown
  by_cases hlt : k < tl.length
  ·obtain ⟨y, hy⟩ := get_of_lt hlt
   obtain ⟨bt, ot, rfl, _, r0, r1, r2⟩ := row3 (HR.out.below HQ.out.1) hy
   have hkt : (k : Int) < tl.length := by omega
   have HY := Lib.hid hy
   clear hy
   go_upto_region 5 with fail
   refine wp_words (by kernel_rfl) (region_told 18 (by kernel_rfl) (by kernel_rfl) (fun W => Below wr.heap.size wr W) newer (pickD [vIs (.slice B k d), vIs (.slice (some ⟨bt, ot, none⟩) tl.length c), vIs (vi k), vIs (.pointer (some ⟨bt, ot + k * 3, none⟩)), vIs (.pointer (some ⟨bt, ot + k * 3, none⟩)), vIs (vi y.fr), vIs (.slice (some ⟨bt, ot, none⟩) tl.length c), vIs (vi k), vIs (.pointer (some ⟨bt, ot + k * 3, none⟩)), vIs (.pointer (some ⟨bt, ot + k * 3 + 1, none⟩)), vIs (vi y.co), vIs (.slice (some ⟨bt, ot, none⟩) tl.length c), vIs (vi k), vIs (.pointer (some ⟨bt, ot + k * 3, none⟩)), vIs (.pointer (some ⟨bt, ot + k * 3 + 2, none⟩)), vIs (vi y.wa), vIs (rlV y), vOne wr.heap.size 95 (rlC y)]) (fun h k => newer_trans h k) (pickD_stable _ ⟨vIs_st, vIs_st, vIs_st, vIs_st, vIs_st, vIs_st, vIs_st, vIs_st, vIs_st, vIs_st, vIs_st, vIs_st, vIs_st, vIs_st, vIs_st, vIs_st, vIs_st, vOne_st, trivial⟩) (Below.refl _ wr).drew (Below.refl _ _) ?_ ?_)
   ·refine ⟨?_, ?_, ?_, ?_, ?_, ?_, ?_, ?_, ?_, ?_, ?_, ?_, ?_, ?_, ?_, ?_, ?_, ?_, trivial⟩
    ·intro a W hG hR hO hp; have h3 := hO.slot 3 (by kernel_rfl); refine wp_yields (v := .slice B k d) ?_ ⟨_, rfl, rfl, Below.refl _ _, hG⟩; simp [slotOf] at h3; simp [execOp, go_sem, h3]
    ·intro a W hG hR hO hp; have h0 := hO.slot 0 (by kernel_rfl); refine wp_yields (v := .slice (some ⟨bt, ot, none⟩) tl.length c) ?_ ⟨_, rfl, rfl, Below.refl _ _, hG⟩; simp [slotOf] at h0; simp [execOp, go_sem, h0]
    ·intro a W hG hR hO hp; have h4 := hO.slot 4 (by kernel_rfl); refine wp_yields (v := vi k) ?_ ⟨_, rfl, rfl, Below.refl _ _, hG⟩; simp [slotOf] at h4; simp [execOp, go_sem, h4]
    ·intro a W hG hR hO hp; have h12 : slotOf a 12 = .slice (some ⟨bt, ot, none⟩) tl.length c := hp.1; have h13 : slotOf a 13 = vi k := hp.2.1; refine wp_yields (v := .pointer (some ⟨bt, ot + k * 3, none⟩)) ?_ ⟨_, rfl, rfl, Below.refl _ _, hG⟩; simp [slotOf] at h12 h13; simp [execOp, go_sem, h12, h13, hkt]
    ·intro a W hG hR hO hp; have h14 : slotOf a 14 = .pointer (some ⟨bt, ot + k * 3, none⟩) := hp.1; refine wp_yields (v := .pointer (some ⟨bt, ot + k * 3, none⟩)) ?_ ⟨_, rfl, rfl, Below.refl _ _, hG⟩; simp [slotOf] at h14; simp [execOp, go_sem, h14]
    ·intro a W hG hR hO hp; have h15 : slotOf a 15 = .pointer (some ⟨bt, ot + k * 3, none⟩) := hp.1; have c0 := keep_cell r0 hG; refine wp_yields (v := vi y.fr) ?_ ⟨_, rfl, rfl, Below.refl _ _, hG⟩; simp [slotOf] at h15; simp [execOp, go_sem, h15, c0]
    ·intro a W hG hR hO hp; have h0 := hO.slot 0 (by kernel_rfl); refine wp_yields (v := .slice (some ⟨bt, ot, none⟩) tl.length c) ?_ ⟨_, rfl, rfl, Below.refl _ _, hG⟩; simp [slotOf] at h0; simp [execOp, go_sem, h0]
    ·intro a W hG hR hO hp; have h4 := hO.slot 4 (by kernel_rfl); refine wp_yields (v := vi k) ?_ ⟨_, rfl, rfl, Below.refl _ _, hG⟩; simp [slotOf] at h4; simp [execOp, go_sem, h4]
    ·intro a W hG hR hO hp; have h17 : slotOf a 17 = .slice (some ⟨bt, ot, none⟩) tl.length c := hp.1; have h18 : slotOf a 18 = vi k := hp.2.1; refine wp_yields (v := .pointer (some ⟨bt, ot + k * 3, none⟩)) ?_ ⟨_, rfl, rfl, Below.refl _ _, hG⟩; simp [slotOf] at h17 h18; simp [execOp, go_sem, h17, h18, hkt]
    ·intro a W hG hR hO hp; have h19 : slotOf a 19 = .pointer (some ⟨bt, ot + k * 3, none⟩) := hp.1; refine wp_yields (v := .pointer (some ⟨bt, ot + k * 3 + 1, none⟩)) ?_ ⟨_, rfl, rfl, Below.refl _ _, hG⟩; simp [slotOf] at h19; simp [execOp, go_sem, h19]
    ·intro a W hG hR hO hp; have h20 : slotOf a 20 = .pointer (some ⟨bt, ot + k * 3 + 1, none⟩) := hp.1; have c0 := keep_cell r1 hG; refine wp_yields (v := vi y.co) ?_ ⟨_, rfl, rfl, Below.refl _ _, hG⟩; simp [slotOf] at h20; simp [execOp, go_sem, h20, c0]
    ·intro a W hG hR hO hp; have h0 := hO.slot 0 (by kernel_rfl); refine wp_yields (v := .slice (some ⟨bt, ot, none⟩) tl.length c) ?_ ⟨_, rfl, rfl, Below.refl _ _, hG⟩; simp [slotOf] at h0; simp [execOp, go_sem, h0]
    ·intro a W hG hR hO hp; have h4 := hO.slot 4 (by kernel_rfl); refine wp_yields (v := vi k) ?_ ⟨_, rfl, rfl, Below.refl _ _, hG⟩; simp [slotOf] at h4; simp [execOp, go_sem, h4]
    ·intro a W hG hR hO hp; have h22 : slotOf a 22 = .slice (some ⟨bt, ot, none⟩) tl.length c := hp.1; have h23 : slotOf a 23 = vi k := hp.2.1; refine wp_yields (v := .pointer (some ⟨bt, ot + k * 3, none⟩)) ?_ ⟨_, rfl, rfl, Below.refl _ _, hG⟩; simp [slotOf] at h22 h23; simp [execOp, go_sem, h22, h23, hkt]
    ·intro a W hG hR hO hp; have h24 : slotOf a 24 = .pointer (some ⟨bt, ot + k * 3, none⟩) := hp.1; refine wp_yields (v := .pointer (some ⟨bt, ot + k * 3 + 2, none⟩)) ?_ ⟨_, rfl, rfl, Below.refl _ _, hG⟩; simp [slotOf] at h24; simp [execOp, go_sem, h24]
    ·intro a W hG hR hO hp; have h25 : slotOf a 25 = .pointer (some ⟨bt, ot + k * 3 + 2, none⟩) := hp.1; have c0 := keep_cell r2 hG; refine wp_yields (v := vi y.wa) ?_ ⟨_, rfl, rfl, Below.refl _ _, hG⟩; simp [slotOf] at h25; simp [execOp, go_sem, h25, c0]
    ·intro a W hG hR hO hp; have h16 : slotOf a 16 = vi y.fr := hp.1; have h21 : slotOf a 21 = vi y.co := hp.2.1; have h26 : slotOf a 26 = vi y.wa := hp.2.2.1; refine wp_yields (v := rlV y) ?_ ⟨_, rfl, rfl, Below.refl _ _, hG⟩; simp [slotOf] at h16 h21 h26; simp [execOp, go_sem, h16, h21, h26]
    ·intro a W hG hR hO hp; have h27 : slotOf a 27 = rlV y := hp.1; refine wp_makes (v := .slice (some ⟨W.heap.size, 0, none⟩) 1 1) (W' := W.alloc (.cells (rlC y) 95)) ?_ ⟨_, rfl, ⟨_, rfl, hG.size, Whole.made _ _ _⟩, newer_allocH _ _, below_next hG (newer_allocH _ _)⟩; simp [slotOf] at h27; simp [execOp, go_sem, h27]
   ·intro wz hG hR
    rintro _ rfl _ rfl _ rfl _ rfl _ rfl _ rfl _ rfl _ rfl _ rfl _ rfl _ rfl _ rfl _ rfl _ rfl _ rfl _ rfl _ rfl _ ⟨nb, rfl, hnb, hW⟩
    change wpList _ _ _ _ _ _
    simp only [Act.put, List.setIfInBounds_toArray, List.set_cons_zero, List.set_cons_succ, List.drop_succ_cons, List.drop_zero]
    have HO := Lib.hid (own_below HQ.out.2 hG)
    have HN := Lib.hid (newer_trans HQ.out.1 hG)
    have HWN := Lib.hid (World.news_of_block hW)
    clear hG hR hW r0 r1 r2 HQ
    go_wp2_with (at_builtin; go_loud ((refine wpList_append_lies _ rfl (.tmp 11) (.tmp 28) 62 rfl w.heap.size 95 i8 (.agg #[vi 0, vi 0, vi 0]) 3 24 Try.underlying62 HI8.out.1 HI8.out.2.1 HI8.out.2.2.1 HI8.out.2.2.2 rfl (by omega) _ k _ rfl HO.out ⟨nb, 0, none⟩ 1 1 (rlL y) rfl rfl HWN.out (by simp [Value.oneCell']) (by omega) (by unfold maxLen; omega) (by omega) HN.out.size wz.heap.size rfl ?_); intro gg cp2 w2 hown2 hgrow2 hat2 hlt3; rw [<- take_flat rlL _ k y HY.out] at hown2; have HE := Lib.hid (And.intro hown2 (And.intro hgrow2 (own_ge HO.out))); clear hown2 hgrow2 hat2 hlt3))
    refine ⟨⟨k + 1, some ⟨gg, 0, none⟩, cp2, rfl, by omega, rfl, ?_, HE.out.1⟩, ?_⟩
    ·exact below_grown (grown_trans' (grown_of_newer HN.out _) HE.out.2.1) HE.out.2.2 (Nat.le_refl _)
    ·simp [intOf]
     omega
  ·obtain rfl : k = tl.length := by omega
   have hown := HQ.out.2
   rw [List.take_of_length_le (Nat.le_refl _)] at hown
   have HE := Lib.hid (row_of_own (enc := rlL) (size := 3) (by omega) (fun _ => rfl) hown)
   clear hown
   go_wp2_with fail
   go_ret
   exact ⟨B, d, rfl, HE.out, HQ.out.1⟩
set_option maxRecDepth 100000 in
set_option maxHeartbeats 1000000 in
theorem truthAt_any (tl : List Rl) (A : Option Addr) (c tb i : Nat) (b : Bd) (y : Rl) (w : World) (ht : Whole w tb 62 #[.slice A tl.length c]) (hr : Row rlL 3 w w.heap.size A tl) (hy : tl[i]? = some y) : Calls Try.prog 36 #[vi i, bdV b, .pointer (some ⟨tb, 0, none⟩)] w fun e w' => e = .returned (rlV y) /\ newer w w' := by
 have hlt := (List.getElem?_eq_some_iff.1 hy).1
 have hki : (i : Int) < tl.length := by omega
 have e0 : newer w ((w.alloc (.cells (bdC b) 93)).alloc (.cells #[vi 0, vi 0, vi 0] 95)) := newer_trans (newer_allocH w (.cells (bdC b) 93)) (newer_allocH (w.alloc (.cells (bdC b) 93)) (.cells #[vi 0, vi 0, vi 0] 95))
 have a0 := Whole.made (w.alloc (.cells (bdC b) 93)) 95 #[vi 0, vi 0, vi 0]
 simp only [World.size_alloc] at a0
 obtain ⟨bt, ot, rfl, _, r0, r1, r2⟩ := row3 (hr.below e0) hy
 have c0 := (ht.below e0 ht.lt).at 0 (v := .slice (some ⟨bt, ot, none⟩) tl.length c) rfl
 have z0 := a0.at 0 (v := vi 0) rfl
 have z1 := a0.at 1 (v := vi 0) rfl
 have z2 := a0.at 2 (v := vi 0) rfl
 have f0 := a0.free 0
 have f1 := a0.free 1
 have f2 := a0.free 2
 have HZ : Hid (newer w ((w.alloc (.cells (bdC b) 93)).alloc (.cells (rlC y) 95)) /\ Whole ((w.alloc (.cells (bdC b) 93)).alloc (.cells (rlC y) 95)) (w.heap.size + 1) 95 (rlC y)) := Lib.hid ⟨newer_trans (newer_allocH w (.cells (bdC b) 93)) (newer_allocH (w.alloc (.cells (bdC b) 93)) (.cells (rlC y) 95)), by have h := Whole.made (w.alloc (.cells (bdC b) 93)) 95 (rlC y); rw [World.size_alloc] at h; exact h⟩
 clear e0 a0 hr hy ht hlt
 go_enter Try.func36, Try.ntmps36
 go_wp2_with fail
 have y0 := HZ.out.2.at 0 (v := vi y.fr) rfl
 have y1 := HZ.out.2.at 1 (v := vi y.co) rfl
 have y2 := HZ.out.2.at 2 (v := vi y.wa) rfl
 exact bodyPost_ret (v := .agg #[vi y.fr, vi y.co, vi y.wa]) (by simp [results, Try.results36, go_sem, y0, y1, y2]) rfl ⟨rfl, HZ.out.1⟩
def fitsA (bs : List Bd) (tl : List Rl) : Bool := decide (tl.length = bs.length) && goodB bs.length (fun i => fitB (bs.getD i zeroBd) (tl.getD i ⟨0, 0, 0⟩))
theorem fit_rlB {b : Bd} {x : Rl} (hb : bdB b = true) (h : fitB b x = true) : rlB x = true := by
 obtain ⟨_, _, h3, h4, h5⟩ := bdB_parts hb
 simp only [fitB, inB, Bool.and_eq_true, decide_eq_true_eq] at h
 simp only [rlB, inB, Bool.and_eq_true, decide_eq_true_eq]
 omega
theorem fitsA_iff {bs : List Bd} {tl : List Rl} : fitsA bs tl = true ↔ tl.length = bs.length /\ ∀ i, i < bs.length -> fitB (bs.getD i zeroBd) (tl.getD i ⟨0, 0, 0⟩) = true := by
 unfold fitsA
 rw [Bool.and_eq_true, decide_eq_true_eq, goodB_iff]
def facO (s : Sd) (frm : Int) (l : List Int) (tl : List Rl) : Int × Int := if checkUN s frm l = 0 then (if fitsA (bedsU s frm l) tl then (if dK (bedsU s frm l) (bedsU s frm l).length < 1 then (0, 7) else (factorN (hK (bedsU s frm l) (fun i => tl.getD i ⟨0, 0, 0⟩) (bedsU s frm l).length) (dK (bedsU s frm l) (bedsU s frm l).length), 0)) else (0, 9)) else (0, checkUN s frm l)
set_option maxRecDepth 100000 in
set_option maxHeartbeats 2000000 in
theorem factorP_any (s : Sm) (u : Su) (tl : List Rl) (TA : Option Addr) (tc : Nat) (w : World) (hok : SmOk s w) (few : SmFew s) (hu : SuOk u w) (hul : u.beds.length <= 1000) (htl : tl.length <= 1000) (htr : Row rlL 3 w w.heap.size TA tl) : Calls Try.prog 14 #[smV s, suV u, .slice TA tl.length tc] w fun e w' => e = .returned (.tuple #[vi (facO s.sd u.frm u.beds tl).1, vi (facO s.sd u.frm u.beds tl).2]) /\ newer w w' := by
 have hnw : newer w (((w.alloc (.cells (smC s) 46)).alloc (.cells (suC u) 40)).alloc (.cells #[.slice TA tl.length tc] 62)) := newer_trans (newer_trans (newer_allocH _ _) (newer_allocH _ _)) (newer_allocH _ _)
 have e3 := newer_allocH ((w.alloc (.cells (smC s) 46)).alloc (.cells (suC u) 40)) (.cells #[.slice TA tl.length tc] 62)
 have hxb0 := (Whole.made w 46 (smC s)).alloc (.cells (suC u) 40)
 have hub0 := Whole.made (w.alloc (.cells (smC s) 46)) 40 (suC u)
 have htb := Whole.made ((w.alloc (.cells (smC s) 46)).alloc (.cells (suC u) 40)) 62 #[.slice TA tl.length tc]
 rw [World.size_alloc] at hub0
 rw [World.size_alloc, World.size_alloc] at htb
 have hxb := hxb0.below e3 hxb0.lt
 have hub := hub0.below e3 hub0.lt
 have H0 := Lib.hid (And.intro hnw (And.intro hxb (And.intro hub htb)))
 have HCU := Lib.hid (checkU_any s u _ (hok.next hnw) few (hu.next hnw) hul)
 have x0 := hxb.at 0 (v := .slice s.a s.cs.length s.c) rfl
 have x1 := hxb.at 1 (v := vi s.least) rfl
 have u0 := hub.at 0 (v := vi u.frm) rfl
 have u1 := hub.at 1 (v := .slice u.a u.beds.length u.c) rfl
 have HOK := Lib.hid (And.intro hok (And.intro hu htr))
 have HZ : Hid (checkUN s.sd u.frm u.beds = 0 -> SdOk s.sd /\ surfB s.sd u.frm u.beds = true) := Lib.hid checkU_zero
 obtain ⟨R, hR⟩ : ∃ R, R = facO s.sd u.frm u.beds tl := ⟨_, rfl⟩
 rw [<- hR]
 unfold facO at hR
 obtain ⟨a, ha⟩ : ∃ a, a = checkUN s.sd u.frm u.beds := ⟨_, rfl⟩
 rw [<- ha] at HCU HZ hR
 clear ha hok few hu hul hnw hxb hub hxb0 hub0 htb e3 htr
 by_cases hz : a = 0
 ·subst hz
  obtain ⟨hs, hsf⟩ := HZ.out rfl
  obtain ⟨p1, p2, p3⟩ := surfB_parts hs hsf
  rw [if_pos rfl] at hR
  obtain ⟨k0, hk0⟩ : ∃ k0, k0 = u.frm.toNat := ⟨_, rfl⟩
  obtain ⟨l, hl⟩ : ∃ l, l = u.beds.map Int.toNat := ⟨_, rfl⟩
  rw [<- hk0] at p1 p3
  rw [<- hl] at p2 p3
  rw [sd_len] at p3
  have HBE : Hid (∀ W, newer w W -> Calls Try.prog 33 #[smV s, suV u] W fun e w' => ∃ A c, e = .returned (.slice A l.length c) /\ w'.ownsRow W.heap.size 93 8 (.slice A l.length c) l.length ((bedsL s.sd.cols k0 l).flatMap bdL) /\ newer W w') := Lib.hid (fun W hW => bedsU_any s u k0 l W (HOK.out.1.next hW) hs (HOK.out.2.1.next hW) p1 p2 p3)
  have hll : l.length <= 12 := by have h1 := p3.2.1; have h2 := hs.cols; rw [sd_len] at h2; omega
  have hbo := bedsL_ok hs p3.2.2 p3.2.1
  have eb : bedsU s.sd u.frm u.beds = bedsL s.sd.cols k0 l := by unfold bedsU; rw [<- hk0, <- hl]
  rw [eb] at hR
  have hbl := bedsL_len s.sd.cols l k0
  obtain ⟨bs, hbs⟩ : ∃ bs, bs = bedsL s.sd.cols k0 l := ⟨_, rfl⟩
  rw [<- hbs] at HBE hbo hbl hR
  rw [<- hbl] at HBE
  have hbn : bs.length <= 12 := by omega
  have HBO := Lib.hid hbo
  have HRR := Lib.hid hR
  clear hR hs hsf p1 p2 p3 hk0 hl hll eb hbl hbs hbo HZ
  go_enter Try.func14, Try.ntmps14
  go_wp2_with fail
  refine (HCU.out).mono ?_
  rintro e w1 ⟨rfl, hb⟩
  have H1 := Lib.hid (And.intro (newer_trans H0.out.1 hb) (And.intro (H0.out.2.1.below hb H0.out.2.1.lt) (And.intro (H0.out.2.2.1.below hb H0.out.2.2.1.lt) (H0.out.2.2.2.below hb H0.out.2.2.2.lt))))
  clear H0 hb HCU x0 x1 u0 u1
  have x0 := H1.out.2.1.at 0 (v := .slice s.a s.cs.length s.c) rfl
  have x1 := H1.out.2.1.at 1 (v := vi s.least) rfl
  have u0 := H1.out.2.2.1.at 0 (v := vi u.frm) rfl
  have u1 := H1.out.2.2.1.at 1 (v := .slice u.a u.beds.length u.c) rfl
  go_wp2_with fail
  refine (HBE.out _ H1.out.1).mono ?_
  rintro e w2 ⟨A, c, rfl, ho, hb⟩
  have hrow := row_of_own (enc := bdL) (size := 8) (by omega) (fun _ => rfl) ho
  have H2 := Lib.hid (And.intro (newer_trans H1.out.1 hb) (And.intro (H1.out.2.2.2.below hb H1.out.2.2.2.lt) hrow))
  have HX2 := Lib.hid (And.intro (newer_trans H1.out.1 hb) (H1.out.2.2.2.below hb H1.out.2.2.2.lt))
  clear H1 hb HBE x0 x1 u0 u1 ho hrow
  have t0 := H2.out.2.1.at 0 (v := .slice TA tl.length tc) rfl
  by_cases hlen : tl.length = bs.length
  case neg =>
   have hb0 : ((tl.length : Int) == (bs.length : Int)) = false := by simp; omega
   have hb1 : ((tl.length : Int) != (bs.length : Int)) = true := by simp; omega
   have hb2 : (tl.length == bs.length) = false := by simpa using hlen
   have hb3 : (tl.length != bs.length) = true := by simpa using hlen
   have HE : Hid (R = (0, 9)) := Lib.hid (by
    rw [HRR.out, if_neg]
    intro h
    exact hlen (fitsA_iff.1 h).1)
   clear hlen
   go_wp2_with fail
   exact bodyPost_ret (v := .tuple #[vi 0, vi 9]) (by simp [results, Try.results14, go_sem]) rfl ⟨by rw [HE.out], H2.out.1⟩
  case pos =>
  have HLN := Lib.hid hlen
  have HFL : Hid (¬ (∀ i, i < bs.length -> fitB (bs.getD i zeroBd) (tl.getD i ⟨0, 0, 0⟩) = true) -> R = (0, 9)) := Lib.hid (fun h => by
   rw [HRR.out, if_neg]
   intro h2
   exact h (fitsA_iff.1 h2).2)
  rw [hlen] at t0
  have hq0 : ((bs.length : Int) == (bs.length : Int)) = true := by simp
  have hq1 : ((bs.length : Int) != (bs.length : Int)) = false := by simp
  clear hlen
  go_wp2_with fail
  go_loopw [30] (fun s30 wr => ∃ k : Nat, s30 = vi k /\ k <= bs.length /\ (∀ i, i < k -> fitB (bs.getD i zeroBd) (tl.getD i ⟨0, 0, 0⟩) = true) /\ newer w wr /\ Whole wr (w.heap.size + 1 + 1) 62 #[.slice TA tl.length tc] /\ Row bdL 8 wr wr.heap.size A bs) (fun s30 _ => bs.length - (intOf s30).toNat)
  case atStart => exact ⟨0, rfl, Nat.zero_le _, fun i h => absurd h (by omega), H2.out.1, H2.out.2.1, H2.out.2.2⟩
  case round =>
   obtain ⟨k, rfl, hk, hfit, hn, htb, hrow⟩ := hrel
   clear H2 HX2 t0 hq0 hq1
   have HFI := Lib.hid hfit
   have HJ := Lib.hid (And.intro hn (And.intro htb hrow))
   clear hfit hn htb hrow
   by_cases hlt : k < bs.length
   ·obtain ⟨bd, hbd⟩ := get_of_lt hlt
    obtain ⟨y, hy⟩ := get_of_lt (l := tl) (k := k) (by rw [HLN.out]; exact hlt)
    obtain ⟨b4, o4, rfl, _, d0, d1, d2, d3, d4, d5, d6, d7⟩ := row8 HJ.out.2.2 hbd
    have hge : bs.getD k zeroBd = bd := by simp [List.getD, hbd]
    have hgy : tl.getD k ⟨0, 0, 0⟩ = y := by simp [List.getD, hy]
    have HFK : Hid (fitB (bs.getD k zeroBd) (tl.getD k ⟨0, 0, 0⟩) = (inB y.fr bd.fr.lo bd.fr.hi && inB y.co bd.co.lo bd.co.hi && inB y.wa bd.wa.lo bd.wa.hi)) := Lib.hid (by rw [hge, hgy]; rfl)
    obtain ⟨bt, ot, eT, _, r0, r1, r2⟩ := row3 (HOK.out.2.2.below HJ.out.1) hy
    have hkb : (k : Int) < bs.length := by omega
    have hkt : (k : Int) < tl.length := by rw [HLN.out]; exact hkb
    have HET := Lib.hid eT
    have HRW := Lib.hid (And.intro r0 (And.intro r1 r2))
    have e5 := newer_allocH wr (.cells (bdC bd) 93)
    have HE4 := Lib.hid (And.intro (newer_trans HJ.out.1 e5) (And.intro (HJ.out.2.1.below e5 HJ.out.2.1.lt) (And.intro ((HJ.out.2.2.below e5).more e5.size) (And.intro (Whole.made wr 93 (bdC bd)) (And.intro (keep_cell r0 e5) (And.intro (keep_cell r1 e5) (keep_cell r2 e5)))))))
    clear hbd hy hge hgy e5 r0 r1 r2 eT HJ HRW
    go_upto_region 10 with fail
    refine genQ (fun X => newer w X /\ Whole X (w.heap.size + 1 + 1) 62 #[.slice TA tl.length tc] /\ Row bdL 8 X X.heap.size (some ⟨b4, o4, none⟩) bs /\ Whole X wr.heap.size 93 (bdC bd) /\ X.cell? ⟨bt, ot + k * 3, none⟩ = some (vi y.fr) /\ X.cell? ⟨bt, ot + k * 3 + 1, none⟩ = some (vi y.co) /\ X.cell? ⟨bt, ot + k * 3 + 2, none⟩ = some (vi y.wa)) HE4.out ?_
    clear HE4 d0 d1 d2 d3 d4 d5 d6 d7
    obtain ⟨bb, hbb⟩ : ∃ bb, bb = wr.heap.size := ⟨_, rfl⟩
    rw [<- hbb]
    rintro w5 ⟨p1, p2, p3, p4, r0, r1, r2⟩
    have z0 := p4.at 0 (v := vi bd.drive) rfl
    have z1 := p4.at 1 (v := vi bd.normal) rfl
    have z2 := p4.at 2 (v := vi bd.fr.lo) rfl
    have z3 := p4.at 3 (v := vi bd.fr.hi) rfl
    have z4 := p4.at 4 (v := vi bd.co.lo) rfl
    have z5 := p4.at 5 (v := vi bd.co.hi) rfl
    have z6 := p4.at 6 (v := vi bd.wa.lo) rfl
    have z7 := p4.at 7 (v := vi bd.wa.hi) rfl
    have t0 := p2.at 0 (v := .slice TA tl.length tc) rfl
    rw [HET.out] at t0
    have HE5 := Lib.hid (And.intro p1 (And.intro p2 p3))
    have HH1 := Lib.hid (fun W => has_any bd.fr y.fr W)
    have HH2 := Lib.hid (fun W => has_any bd.co y.co W)
    have HH3 := Lib.hid (fun W => has_any bd.wa y.wa W)
    obtain ⟨q1, hq1⟩ : ∃ q, q = inB y.fr bd.fr.lo bd.fr.hi := ⟨_, rfl⟩
    obtain ⟨q2, hq2⟩ : ∃ q, q = inB y.co bd.co.lo bd.co.hi := ⟨_, rfl⟩
    obtain ⟨q3, hq3⟩ : ∃ q, q = inB y.wa bd.wa.lo bd.wa.hi := ⟨_, rfl⟩
    rw [<- hq1, <- hq2, <- hq3] at HFK
    rw [<- hq1] at HH1
    rw [<- hq2] at HH2
    rw [<- hq3] at HH3
    clear p1 p2 p3 p4 hbb hq1 hq2 hq3
    cases q1 with
    | false =>
     refine wp_words (by kernel_rfl) (region_told_u 30 (by kernel_rfl) (by kernel_rfl) [false, false, false, false, false, false, false, false, false, false, true, true, true, true, true, true, true, true, true, false, false, true, true, true, true, true, true, true, true, true] (fun W => Below w5.heap.size w5 W) newer [vIs (.pointer (some ⟨bb, 2, none⟩)), vIs (rgV bd.fr), vIs (.slice (some ⟨bt, ot, none⟩) tl.length tc), vIs (vi k), vIs (.pointer (some ⟨bt, ot + k * 3, none⟩)), vIs (.pointer (some ⟨bt, ot + k * 3, none⟩)), vIs (vi y.fr), vIs (.bool false), vIs (.bool true), vIs (.bool true), vIs (undef), vIs (undef), vIs (undef), vIs (undef), vIs (undef), vIs (undef), vIs (undef), vIs (undef), vIs (undef), vIs (.bool true), vIs (.bool true), vIs (undef), vIs (undef), vIs (undef), vIs (undef), vIs (undef), vIs (undef), vIs (undef), vIs (undef), vIs (undef)] (by repeat' first | refine And.intro ?_ ?_ | exact trivial | exact rfl | (intro v W h; obtain rfl : v = _ := h; first | rfl | (simp; done) | (simp [undef]; done))) (by repeat' first | refine And.intro ?_ ?_ | exact trivial | exact (fun h => Bool.noConfusion (show false = true from h)) | exact (fun _ _ => rfl)) (fun h k => newer_trans h k) (pickD_stable _ (by repeat' first | refine And.intro ?_ ?_ | exact trivial | exact vIs_st)) (Below.refl _ w5).drew (Below.refl _ _) ?_ ?_)
     ·refine ⟨.inr ?_, .inr ?_, .inr ?_, .inr ?_, .inr ?_, .inr ?_, .inr ?_, .inr ?_, .inr ?_, .inr ?_, .inl rfl, .inl rfl, .inl rfl, .inl rfl, .inl rfl, .inl rfl, .inl rfl, .inl rfl, .inl rfl, .inr ?_, .inr ?_, .inl rfl, .inl rfl, .inl rfl, .inl rfl, .inl rfl, .inl rfl, .inl rfl, .inl rfl, .inl rfl, trivial⟩
      ·intro a W hG hR hO hp; have h11 := hO.slot 11 (by kernel_rfl); refine wp_yields (v := .pointer (some ⟨bb, 2, none⟩)) ?_ ⟨_, rfl, rfl, Below.refl _ _, hG⟩; simp [slotOf] at h11; simp [execOp, go_sem, h11]
      ·intro a W hG hR hO hp; have h35 : slotOf a 35 = .pointer (some ⟨bb, 2, none⟩) := hp.1; have c0 := keep_cell z2 hG; have c1 := keep_cell z3 hG; refine wp_yields (v := rgV bd.fr) ?_ ⟨_, rfl, rfl, Below.refl _ _, hG⟩; simp [slotOf] at h35; simp [execOp, go_sem, h35, c0, c1]
      ·intro a W hG hR hO hp; have h5 := hO.slot 5 (by kernel_rfl); have c0 := keep_cell t0 hG; refine wp_yields (v := .slice (some ⟨bt, ot, none⟩) tl.length tc) ?_ ⟨_, rfl, rfl, Below.refl _ _, hG⟩; simp [slotOf] at h5; simp [execOp, go_sem, h5, c0]
      ·intro a W hG hR hO hp; have h10 := hO.slot 10 (by kernel_rfl); refine wp_yields (v := vi k) ?_ ⟨_, rfl, rfl, Below.refl _ _, hG⟩; simp [slotOf] at h10; simp [execOp, go_sem, h10]
      ·intro a W hG hR hO hp; have h37 : slotOf a 37 = .slice (some ⟨bt, ot, none⟩) tl.length tc := hp.1; have h38 : slotOf a 38 = vi k := hp.2.1; refine wp_yields (v := .pointer (some ⟨bt, ot + k * 3, none⟩)) ?_ ⟨_, rfl, rfl, Below.refl _ _, hG⟩; simp [slotOf] at h37 h38; simp [execOp, go_sem, h37, h38, hkt]
      ·intro a W hG hR hO hp; have h39 : slotOf a 39 = .pointer (some ⟨bt, ot + k * 3, none⟩) := hp.1; refine wp_yields (v := .pointer (some ⟨bt, ot + k * 3, none⟩)) ?_ ⟨_, rfl, rfl, Below.refl _ _, hG⟩; simp [slotOf] at h39; simp [execOp, go_sem, h39]
      ·intro a W hG hR hO hp; have h40 : slotOf a 40 = .pointer (some ⟨bt, ot + k * 3, none⟩) := hp.1; have c0 := keep_cell r0 hG; refine wp_yields (v := vi y.fr) ?_ ⟨_, rfl, rfl, Below.refl _ _, hG⟩; simp [slotOf] at h40; simp [execOp, go_sem, h40, c0]
      ·intro a W hG hR hO hp
       have h36 : slotOf a 36 = rgV bd.fr := hp.1
       have h41 : slotOf a 41 = vi y.fr := hp.2.1
       refine wp_enters (f := 34) (args := #[rgV bd.fr, vi y.fr]) ?_ ((HH1.out W).mono ?_)
       ·simp [slotOf] at h36 h41
        simp [go_sem, h36, h41]
       ·rintro e w' ⟨rfl, hb⟩
        exact ⟨_, rfl, _, rfl, rfl, hb, below_next hG hb⟩
      ·intro a W hG hR hO hp; have h42 : slotOf a 42 = .bool false := hp.1; refine wp_yields (v := .bool true) ?_ ⟨_, rfl, rfl, Below.refl _ _, hG⟩; simp [slotOf] at h42; simp [execOp, go_sem, h42]
      ·intro a W hG hR hO hp; have h43 : slotOf a 43 = .bool true := hp.1; refine wp_yields (v := .bool true) ?_ ⟨_, rfl, rfl, Below.refl _ _, hG⟩; simp [slotOf] at h43; simp [execOp, go_sem, h43]
      ·intro a W hG hR hO hp; have h44 : slotOf a 44 = .bool true := hp.1; have h53 : slotOf a 53 = undef := hp.2.1; refine wp_yields (v := .bool true) ?_ ⟨_, rfl, rfl, Below.refl _ _, hG⟩; simp [slotOf] at h44 h53; simp [execOp, go_sem, h44, h53]
      ·intro a W hG hR hO hp; have h54 : slotOf a 54 = .bool true := hp.1; refine wp_yields (v := .bool true) ?_ ⟨_, rfl, rfl, Below.refl _ _, hG⟩; simp [slotOf] at h54; simp [execOp, go_sem, h54]
     ·intro wz hG hR
      rintro _ rfl _ rfl _ rfl _ rfl _ rfl _ rfl _ rfl _ rfl _ rfl _ rfl _ rfl _ rfl _ rfl _ rfl _ rfl _ rfl _ rfl _ rfl _ rfl _ rfl _ rfl _ rfl _ rfl _ rfl _ rfl _ rfl _ rfl _ rfl _ rfl _ rfl
      change wpList _ _ _ _ _ _
      simp only [Act.put, List.setIfInBounds_toArray, List.set_cons_zero, List.set_cons_succ, List.drop_succ_cons, List.drop_zero]
      have HN := Lib.hid (newer_trans HE5.out.1 hG)
      have HFF := Lib.hid (HFL.out (fun h => by have h1 := h k hlt; rw [HFK.out] at h1; cases h1))
      clear hG hR HE5 t0 r0 r1 r2 z0 z1 z2 z3 z4 z5 z6 z7
      go_wp2_with fail
      exact bodyPost_ret (v := .tuple #[vi 0, vi 9]) (by simp [results, Try.results14, go_sem]) rfl ⟨by rw [HFF.out], HN.out⟩
    | true =>
    cases q2 with
    | false =>
     refine wp_words (by kernel_rfl) (region_told_u 30 (by kernel_rfl) (by kernel_rfl) [false, false, false, false, false, false, false, false, false, false, false, false, false, false, false, false, false, false, false, false, false, true, true, true, true, true, true, true, true, true] (fun W => Below w5.heap.size w5 W) newer [vIs (.pointer (some ⟨bb, 2, none⟩)), vIs (rgV bd.fr), vIs (.slice (some ⟨bt, ot, none⟩) tl.length tc), vIs (vi k), vIs (.pointer (some ⟨bt, ot + k * 3, none⟩)), vIs (.pointer (some ⟨bt, ot + k * 3, none⟩)), vIs (vi y.fr), vIs (.bool true), vIs (.bool false), vIs (.bool false), vIs (.pointer (some ⟨bb, 4, none⟩)), vIs (rgV bd.co), vIs (.slice (some ⟨bt, ot, none⟩) tl.length tc), vIs (vi k), vIs (.pointer (some ⟨bt, ot + k * 3, none⟩)), vIs (.pointer (some ⟨bt, ot + k * 3 + 1, none⟩)), vIs (vi y.co), vIs (.bool false), vIs (.bool true), vIs (.bool true), vIs (.bool true), vIs (undef), vIs (undef), vIs (undef), vIs (undef), vIs (undef), vIs (undef), vIs (undef), vIs (undef), vIs (undef)] (by repeat' first | refine And.intro ?_ ?_ | exact trivial | exact rfl | (intro v W h; obtain rfl : v = _ := h; first | rfl | (simp; done) | (simp [undef]; done))) (by repeat' first | refine And.intro ?_ ?_ | exact trivial | exact (fun h => Bool.noConfusion (show false = true from h)) | exact (fun _ _ => rfl)) (fun h k => newer_trans h k) (pickD_stable _ (by repeat' first | refine And.intro ?_ ?_ | exact trivial | exact vIs_st)) (Below.refl _ w5).drew (Below.refl _ _) ?_ ?_)
     ·refine ⟨.inr ?_, .inr ?_, .inr ?_, .inr ?_, .inr ?_, .inr ?_, .inr ?_, .inr ?_, .inr ?_, .inr ?_, .inr ?_, .inr ?_, .inr ?_, .inr ?_, .inr ?_, .inr ?_, .inr ?_, .inr ?_, .inr ?_, .inr ?_, .inr ?_, .inl rfl, .inl rfl, .inl rfl, .inl rfl, .inl rfl, .inl rfl, .inl rfl, .inl rfl, .inl rfl, trivial⟩
      ·intro a W hG hR hO hp; have h11 := hO.slot 11 (by kernel_rfl); refine wp_yields (v := .pointer (some ⟨bb, 2, none⟩)) ?_ ⟨_, rfl, rfl, Below.refl _ _, hG⟩; simp [slotOf] at h11; simp [execOp, go_sem, h11]
      ·intro a W hG hR hO hp; have h35 : slotOf a 35 = .pointer (some ⟨bb, 2, none⟩) := hp.1; have c0 := keep_cell z2 hG; have c1 := keep_cell z3 hG; refine wp_yields (v := rgV bd.fr) ?_ ⟨_, rfl, rfl, Below.refl _ _, hG⟩; simp [slotOf] at h35; simp [execOp, go_sem, h35, c0, c1]
      ·intro a W hG hR hO hp; have h5 := hO.slot 5 (by kernel_rfl); have c0 := keep_cell t0 hG; refine wp_yields (v := .slice (some ⟨bt, ot, none⟩) tl.length tc) ?_ ⟨_, rfl, rfl, Below.refl _ _, hG⟩; simp [slotOf] at h5; simp [execOp, go_sem, h5, c0]
      ·intro a W hG hR hO hp; have h10 := hO.slot 10 (by kernel_rfl); refine wp_yields (v := vi k) ?_ ⟨_, rfl, rfl, Below.refl _ _, hG⟩; simp [slotOf] at h10; simp [execOp, go_sem, h10]
      ·intro a W hG hR hO hp; have h37 : slotOf a 37 = .slice (some ⟨bt, ot, none⟩) tl.length tc := hp.1; have h38 : slotOf a 38 = vi k := hp.2.1; refine wp_yields (v := .pointer (some ⟨bt, ot + k * 3, none⟩)) ?_ ⟨_, rfl, rfl, Below.refl _ _, hG⟩; simp [slotOf] at h37 h38; simp [execOp, go_sem, h37, h38, hkt]
      ·intro a W hG hR hO hp; have h39 : slotOf a 39 = .pointer (some ⟨bt, ot + k * 3, none⟩) := hp.1; refine wp_yields (v := .pointer (some ⟨bt, ot + k * 3, none⟩)) ?_ ⟨_, rfl, rfl, Below.refl _ _, hG⟩; simp [slotOf] at h39; simp [execOp, go_sem, h39]
      ·intro a W hG hR hO hp; have h40 : slotOf a 40 = .pointer (some ⟨bt, ot + k * 3, none⟩) := hp.1; have c0 := keep_cell r0 hG; refine wp_yields (v := vi y.fr) ?_ ⟨_, rfl, rfl, Below.refl _ _, hG⟩; simp [slotOf] at h40; simp [execOp, go_sem, h40, c0]
      ·intro a W hG hR hO hp
       have h36 : slotOf a 36 = rgV bd.fr := hp.1
       have h41 : slotOf a 41 = vi y.fr := hp.2.1
       refine wp_enters (f := 34) (args := #[rgV bd.fr, vi y.fr]) ?_ ((HH1.out W).mono ?_)
       ·simp [slotOf] at h36 h41
        simp [go_sem, h36, h41]
       ·rintro e w' ⟨rfl, hb⟩
        exact ⟨_, rfl, _, rfl, rfl, hb, below_next hG hb⟩
      ·intro a W hG hR hO hp; have h42 : slotOf a 42 = .bool true := hp.1; refine wp_yields (v := .bool false) ?_ ⟨_, rfl, rfl, Below.refl _ _, hG⟩; simp [slotOf] at h42; simp [execOp, go_sem, h42]
      ·intro a W hG hR hO hp; have h43 : slotOf a 43 = .bool false := hp.1; refine wp_yields (v := .bool false) ?_ ⟨_, rfl, rfl, Below.refl _ _, hG⟩; simp [slotOf] at h43; simp [execOp, go_sem, h43]
      ·intro a W hG hR hO hp; have h11 := hO.slot 11 (by kernel_rfl); refine wp_yields (v := .pointer (some ⟨bb, 4, none⟩)) ?_ ⟨_, rfl, rfl, Below.refl _ _, hG⟩; simp [slotOf] at h11; simp [execOp, go_sem, h11]
      ·intro a W hG hR hO hp; have h45 : slotOf a 45 = .pointer (some ⟨bb, 4, none⟩) := hp.1; have c0 := keep_cell z4 hG; have c1 := keep_cell z5 hG; refine wp_yields (v := rgV bd.co) ?_ ⟨_, rfl, rfl, Below.refl _ _, hG⟩; simp [slotOf] at h45; simp [execOp, go_sem, h45, c0, c1]
      ·intro a W hG hR hO hp; have h5 := hO.slot 5 (by kernel_rfl); have c0 := keep_cell t0 hG; refine wp_yields (v := .slice (some ⟨bt, ot, none⟩) tl.length tc) ?_ ⟨_, rfl, rfl, Below.refl _ _, hG⟩; simp [slotOf] at h5; simp [execOp, go_sem, h5, c0]
      ·intro a W hG hR hO hp; have h10 := hO.slot 10 (by kernel_rfl); refine wp_yields (v := vi k) ?_ ⟨_, rfl, rfl, Below.refl _ _, hG⟩; simp [slotOf] at h10; simp [execOp, go_sem, h10]
      ·intro a W hG hR hO hp; have h47 : slotOf a 47 = .slice (some ⟨bt, ot, none⟩) tl.length tc := hp.1; have h48 : slotOf a 48 = vi k := hp.2.1; refine wp_yields (v := .pointer (some ⟨bt, ot + k * 3, none⟩)) ?_ ⟨_, rfl, rfl, Below.refl _ _, hG⟩; simp [slotOf] at h47 h48; simp [execOp, go_sem, h47, h48, hkt]
      ·intro a W hG hR hO hp; have h49 : slotOf a 49 = .pointer (some ⟨bt, ot + k * 3, none⟩) := hp.1; refine wp_yields (v := .pointer (some ⟨bt, ot + k * 3 + 1, none⟩)) ?_ ⟨_, rfl, rfl, Below.refl _ _, hG⟩; simp [slotOf] at h49; simp [execOp, go_sem, h49]
      ·intro a W hG hR hO hp; have h50 : slotOf a 50 = .pointer (some ⟨bt, ot + k * 3 + 1, none⟩) := hp.1; have c0 := keep_cell r1 hG; refine wp_yields (v := vi y.co) ?_ ⟨_, rfl, rfl, Below.refl _ _, hG⟩; simp [slotOf] at h50; simp [execOp, go_sem, h50, c0]
      ·intro a W hG hR hO hp
       have h46 : slotOf a 46 = rgV bd.co := hp.1
       have h51 : slotOf a 51 = vi y.co := hp.2.1
       refine wp_enters (f := 34) (args := #[rgV bd.co, vi y.co]) ?_ ((HH2.out W).mono ?_)
       ·simp [slotOf] at h46 h51
        simp [go_sem, h46, h51]
       ·rintro e w' ⟨rfl, hb⟩
        exact ⟨_, rfl, _, rfl, rfl, hb, below_next hG hb⟩
      ·intro a W hG hR hO hp; have h52 : slotOf a 52 = .bool false := hp.1; refine wp_yields (v := .bool true) ?_ ⟨_, rfl, rfl, Below.refl _ _, hG⟩; simp [slotOf] at h52; simp [execOp, go_sem, h52]
      ·intro a W hG hR hO hp; have h44 : slotOf a 44 = .bool false := hp.1; have h53 : slotOf a 53 = .bool true := hp.2.1; refine wp_yields (v := .bool true) ?_ ⟨_, rfl, rfl, Below.refl _ _, hG⟩; simp [slotOf] at h44 h53; simp [execOp, go_sem, h44, h53]
      ·intro a W hG hR hO hp; have h54 : slotOf a 54 = .bool true := hp.1; refine wp_yields (v := .bool true) ?_ ⟨_, rfl, rfl, Below.refl _ _, hG⟩; simp [slotOf] at h54; simp [execOp, go_sem, h54]
     ·intro wz hG hR
      rintro _ rfl _ rfl _ rfl _ rfl _ rfl _ rfl _ rfl _ rfl _ rfl _ rfl _ rfl _ rfl _ rfl _ rfl _ rfl _ rfl _ rfl _ rfl _ rfl _ rfl _ rfl _ rfl _ rfl _ rfl _ rfl _ rfl _ rfl _ rfl _ rfl _ rfl
      change wpList _ _ _ _ _ _
      simp only [Act.put, List.setIfInBounds_toArray, List.set_cons_zero, List.set_cons_succ, List.drop_succ_cons, List.drop_zero]
      have HN := Lib.hid (newer_trans HE5.out.1 hG)
      have HFF := Lib.hid (HFL.out (fun h => by have h1 := h k hlt; rw [HFK.out] at h1; cases h1))
      clear hG hR HE5 t0 r0 r1 r2 z0 z1 z2 z3 z4 z5 z6 z7
      go_wp2_with fail
      exact bodyPost_ret (v := .tuple #[vi 0, vi 9]) (by simp [results, Try.results14, go_sem]) rfl ⟨by rw [HFF.out], HN.out⟩
    | true =>
    cases q3 with
    | false =>
     refine wp_words (by kernel_rfl) (region_told_u 30 (by kernel_rfl) (by kernel_rfl) [false, false, false, false, false, false, false, false, false, false, false, false, false, false, false, false, false, false, false, false, false, false, false, false, false, false, false, false, false, false] (fun W => Below w5.heap.size w5 W) newer [vIs (.pointer (some ⟨bb, 2, none⟩)), vIs (rgV bd.fr), vIs (.slice (some ⟨bt, ot, none⟩) tl.length tc), vIs (vi k), vIs (.pointer (some ⟨bt, ot + k * 3, none⟩)), vIs (.pointer (some ⟨bt, ot + k * 3, none⟩)), vIs (vi y.fr), vIs (.bool true), vIs (.bool false), vIs (.bool false), vIs (.pointer (some ⟨bb, 4, none⟩)), vIs (rgV bd.co), vIs (.slice (some ⟨bt, ot, none⟩) tl.length tc), vIs (vi k), vIs (.pointer (some ⟨bt, ot + k * 3, none⟩)), vIs (.pointer (some ⟨bt, ot + k * 3 + 1, none⟩)), vIs (vi y.co), vIs (.bool true), vIs (.bool false), vIs (.bool false), vIs (.bool false), vIs (.pointer (some ⟨bb, 6, none⟩)), vIs (rgV bd.wa), vIs (.slice (some ⟨bt, ot, none⟩) tl.length tc), vIs (vi k), vIs (.pointer (some ⟨bt, ot + k * 3, none⟩)), vIs (.pointer (some ⟨bt, ot + k * 3 + 2, none⟩)), vIs (vi y.wa), vIs (.bool false), vIs (.bool true)] (by repeat' first | refine And.intro ?_ ?_ | exact trivial | exact rfl | (intro v W h; obtain rfl : v = _ := h; first | rfl | (simp; done) | (simp [undef]; done))) (by repeat' first | refine And.intro ?_ ?_ | exact trivial | exact (fun h => Bool.noConfusion (show false = true from h)) | exact (fun _ _ => rfl)) (fun h k => newer_trans h k) (pickD_stable _ (by repeat' first | refine And.intro ?_ ?_ | exact trivial | exact vIs_st)) (Below.refl _ w5).drew (Below.refl _ _) ?_ ?_)
     ·refine ⟨.inr ?_, .inr ?_, .inr ?_, .inr ?_, .inr ?_, .inr ?_, .inr ?_, .inr ?_, .inr ?_, .inr ?_, .inr ?_, .inr ?_, .inr ?_, .inr ?_, .inr ?_, .inr ?_, .inr ?_, .inr ?_, .inr ?_, .inr ?_, .inr ?_, .inr ?_, .inr ?_, .inr ?_, .inr ?_, .inr ?_, .inr ?_, .inr ?_, .inr ?_, .inr ?_, trivial⟩
      ·intro a W hG hR hO hp; have h11 := hO.slot 11 (by kernel_rfl); refine wp_yields (v := .pointer (some ⟨bb, 2, none⟩)) ?_ ⟨_, rfl, rfl, Below.refl _ _, hG⟩; simp [slotOf] at h11; simp [execOp, go_sem, h11]
      ·intro a W hG hR hO hp; have h35 : slotOf a 35 = .pointer (some ⟨bb, 2, none⟩) := hp.1; have c0 := keep_cell z2 hG; have c1 := keep_cell z3 hG; refine wp_yields (v := rgV bd.fr) ?_ ⟨_, rfl, rfl, Below.refl _ _, hG⟩; simp [slotOf] at h35; simp [execOp, go_sem, h35, c0, c1]
      ·intro a W hG hR hO hp; have h5 := hO.slot 5 (by kernel_rfl); have c0 := keep_cell t0 hG; refine wp_yields (v := .slice (some ⟨bt, ot, none⟩) tl.length tc) ?_ ⟨_, rfl, rfl, Below.refl _ _, hG⟩; simp [slotOf] at h5; simp [execOp, go_sem, h5, c0]
      ·intro a W hG hR hO hp; have h10 := hO.slot 10 (by kernel_rfl); refine wp_yields (v := vi k) ?_ ⟨_, rfl, rfl, Below.refl _ _, hG⟩; simp [slotOf] at h10; simp [execOp, go_sem, h10]
      ·intro a W hG hR hO hp; have h37 : slotOf a 37 = .slice (some ⟨bt, ot, none⟩) tl.length tc := hp.1; have h38 : slotOf a 38 = vi k := hp.2.1; refine wp_yields (v := .pointer (some ⟨bt, ot + k * 3, none⟩)) ?_ ⟨_, rfl, rfl, Below.refl _ _, hG⟩; simp [slotOf] at h37 h38; simp [execOp, go_sem, h37, h38, hkt]
      ·intro a W hG hR hO hp; have h39 : slotOf a 39 = .pointer (some ⟨bt, ot + k * 3, none⟩) := hp.1; refine wp_yields (v := .pointer (some ⟨bt, ot + k * 3, none⟩)) ?_ ⟨_, rfl, rfl, Below.refl _ _, hG⟩; simp [slotOf] at h39; simp [execOp, go_sem, h39]
      ·intro a W hG hR hO hp; have h40 : slotOf a 40 = .pointer (some ⟨bt, ot + k * 3, none⟩) := hp.1; have c0 := keep_cell r0 hG; refine wp_yields (v := vi y.fr) ?_ ⟨_, rfl, rfl, Below.refl _ _, hG⟩; simp [slotOf] at h40; simp [execOp, go_sem, h40, c0]
      ·intro a W hG hR hO hp
       have h36 : slotOf a 36 = rgV bd.fr := hp.1
       have h41 : slotOf a 41 = vi y.fr := hp.2.1
       refine wp_enters (f := 34) (args := #[rgV bd.fr, vi y.fr]) ?_ ((HH1.out W).mono ?_)
       ·simp [slotOf] at h36 h41
        simp [go_sem, h36, h41]
       ·rintro e w' ⟨rfl, hb⟩
        exact ⟨_, rfl, _, rfl, rfl, hb, below_next hG hb⟩
      ·intro a W hG hR hO hp; have h42 : slotOf a 42 = .bool true := hp.1; refine wp_yields (v := .bool false) ?_ ⟨_, rfl, rfl, Below.refl _ _, hG⟩; simp [slotOf] at h42; simp [execOp, go_sem, h42]
      ·intro a W hG hR hO hp; have h43 : slotOf a 43 = .bool false := hp.1; refine wp_yields (v := .bool false) ?_ ⟨_, rfl, rfl, Below.refl _ _, hG⟩; simp [slotOf] at h43; simp [execOp, go_sem, h43]
      ·intro a W hG hR hO hp; have h11 := hO.slot 11 (by kernel_rfl); refine wp_yields (v := .pointer (some ⟨bb, 4, none⟩)) ?_ ⟨_, rfl, rfl, Below.refl _ _, hG⟩; simp [slotOf] at h11; simp [execOp, go_sem, h11]
      ·intro a W hG hR hO hp; have h45 : slotOf a 45 = .pointer (some ⟨bb, 4, none⟩) := hp.1; have c0 := keep_cell z4 hG; have c1 := keep_cell z5 hG; refine wp_yields (v := rgV bd.co) ?_ ⟨_, rfl, rfl, Below.refl _ _, hG⟩; simp [slotOf] at h45; simp [execOp, go_sem, h45, c0, c1]
      ·intro a W hG hR hO hp; have h5 := hO.slot 5 (by kernel_rfl); have c0 := keep_cell t0 hG; refine wp_yields (v := .slice (some ⟨bt, ot, none⟩) tl.length tc) ?_ ⟨_, rfl, rfl, Below.refl _ _, hG⟩; simp [slotOf] at h5; simp [execOp, go_sem, h5, c0]
      ·intro a W hG hR hO hp; have h10 := hO.slot 10 (by kernel_rfl); refine wp_yields (v := vi k) ?_ ⟨_, rfl, rfl, Below.refl _ _, hG⟩; simp [slotOf] at h10; simp [execOp, go_sem, h10]
      ·intro a W hG hR hO hp; have h47 : slotOf a 47 = .slice (some ⟨bt, ot, none⟩) tl.length tc := hp.1; have h48 : slotOf a 48 = vi k := hp.2.1; refine wp_yields (v := .pointer (some ⟨bt, ot + k * 3, none⟩)) ?_ ⟨_, rfl, rfl, Below.refl _ _, hG⟩; simp [slotOf] at h47 h48; simp [execOp, go_sem, h47, h48, hkt]
      ·intro a W hG hR hO hp; have h49 : slotOf a 49 = .pointer (some ⟨bt, ot + k * 3, none⟩) := hp.1; refine wp_yields (v := .pointer (some ⟨bt, ot + k * 3 + 1, none⟩)) ?_ ⟨_, rfl, rfl, Below.refl _ _, hG⟩; simp [slotOf] at h49; simp [execOp, go_sem, h49]
      ·intro a W hG hR hO hp; have h50 : slotOf a 50 = .pointer (some ⟨bt, ot + k * 3 + 1, none⟩) := hp.1; have c0 := keep_cell r1 hG; refine wp_yields (v := vi y.co) ?_ ⟨_, rfl, rfl, Below.refl _ _, hG⟩; simp [slotOf] at h50; simp [execOp, go_sem, h50, c0]
      ·intro a W hG hR hO hp
       have h46 : slotOf a 46 = rgV bd.co := hp.1
       have h51 : slotOf a 51 = vi y.co := hp.2.1
       refine wp_enters (f := 34) (args := #[rgV bd.co, vi y.co]) ?_ ((HH2.out W).mono ?_)
       ·simp [slotOf] at h46 h51
        simp [go_sem, h46, h51]
       ·rintro e w' ⟨rfl, hb⟩
        exact ⟨_, rfl, _, rfl, rfl, hb, below_next hG hb⟩
      ·intro a W hG hR hO hp; have h52 : slotOf a 52 = .bool true := hp.1; refine wp_yields (v := .bool false) ?_ ⟨_, rfl, rfl, Below.refl _ _, hG⟩; simp [slotOf] at h52; simp [execOp, go_sem, h52]
      ·intro a W hG hR hO hp; have h44 : slotOf a 44 = .bool false := hp.1; have h53 : slotOf a 53 = .bool false := hp.2.1; refine wp_yields (v := .bool false) ?_ ⟨_, rfl, rfl, Below.refl _ _, hG⟩; simp [slotOf] at h44 h53; simp [execOp, go_sem, h44, h53]
      ·intro a W hG hR hO hp; have h54 : slotOf a 54 = .bool false := hp.1; refine wp_yields (v := .bool false) ?_ ⟨_, rfl, rfl, Below.refl _ _, hG⟩; simp [slotOf] at h54; simp [execOp, go_sem, h54]
      ·intro a W hG hR hO hp; have h11 := hO.slot 11 (by kernel_rfl); refine wp_yields (v := .pointer (some ⟨bb, 6, none⟩)) ?_ ⟨_, rfl, rfl, Below.refl _ _, hG⟩; simp [slotOf] at h11; simp [execOp, go_sem, h11]
      ·intro a W hG hR hO hp; have h56 : slotOf a 56 = .pointer (some ⟨bb, 6, none⟩) := hp.1; have c0 := keep_cell z6 hG; have c1 := keep_cell z7 hG; refine wp_yields (v := rgV bd.wa) ?_ ⟨_, rfl, rfl, Below.refl _ _, hG⟩; simp [slotOf] at h56; simp [execOp, go_sem, h56, c0, c1]
      ·intro a W hG hR hO hp; have h5 := hO.slot 5 (by kernel_rfl); have c0 := keep_cell t0 hG; refine wp_yields (v := .slice (some ⟨bt, ot, none⟩) tl.length tc) ?_ ⟨_, rfl, rfl, Below.refl _ _, hG⟩; simp [slotOf] at h5; simp [execOp, go_sem, h5, c0]
      ·intro a W hG hR hO hp; have h10 := hO.slot 10 (by kernel_rfl); refine wp_yields (v := vi k) ?_ ⟨_, rfl, rfl, Below.refl _ _, hG⟩; simp [slotOf] at h10; simp [execOp, go_sem, h10]
      ·intro a W hG hR hO hp; have h58 : slotOf a 58 = .slice (some ⟨bt, ot, none⟩) tl.length tc := hp.1; have h59 : slotOf a 59 = vi k := hp.2.1; refine wp_yields (v := .pointer (some ⟨bt, ot + k * 3, none⟩)) ?_ ⟨_, rfl, rfl, Below.refl _ _, hG⟩; simp [slotOf] at h58 h59; simp [execOp, go_sem, h58, h59, hkt]
      ·intro a W hG hR hO hp; have h60 : slotOf a 60 = .pointer (some ⟨bt, ot + k * 3, none⟩) := hp.1; refine wp_yields (v := .pointer (some ⟨bt, ot + k * 3 + 2, none⟩)) ?_ ⟨_, rfl, rfl, Below.refl _ _, hG⟩; simp [slotOf] at h60; simp [execOp, go_sem, h60]
      ·intro a W hG hR hO hp; have h61 : slotOf a 61 = .pointer (some ⟨bt, ot + k * 3 + 2, none⟩) := hp.1; have c0 := keep_cell r2 hG; refine wp_yields (v := vi y.wa) ?_ ⟨_, rfl, rfl, Below.refl _ _, hG⟩; simp [slotOf] at h61; simp [execOp, go_sem, h61, c0]
      ·intro a W hG hR hO hp
       have h57 : slotOf a 57 = rgV bd.wa := hp.1
       have h62 : slotOf a 62 = vi y.wa := hp.2.1
       refine wp_enters (f := 34) (args := #[rgV bd.wa, vi y.wa]) ?_ ((HH3.out W).mono ?_)
       ·simp [slotOf] at h57 h62
        simp [go_sem, h57, h62]
       ·rintro e w' ⟨rfl, hb⟩
        exact ⟨_, rfl, _, rfl, rfl, hb, below_next hG hb⟩
      ·intro a W hG hR hO hp; have h63 : slotOf a 63 = .bool false := hp.1; refine wp_yields (v := .bool true) ?_ ⟨_, rfl, rfl, Below.refl _ _, hG⟩; simp [slotOf] at h63; simp [execOp, go_sem, h63]
     ·intro wz hG hR
      rintro _ rfl _ rfl _ rfl _ rfl _ rfl _ rfl _ rfl _ rfl _ rfl _ rfl _ rfl _ rfl _ rfl _ rfl _ rfl _ rfl _ rfl _ rfl _ rfl _ rfl _ rfl _ rfl _ rfl _ rfl _ rfl _ rfl _ rfl _ rfl _ rfl _ rfl
      change wpList _ _ _ _ _ _
      simp only [Act.put, List.setIfInBounds_toArray, List.set_cons_zero, List.set_cons_succ, List.drop_succ_cons, List.drop_zero]
      have HN := Lib.hid (newer_trans HE5.out.1 hG)
      have HFF := Lib.hid (HFL.out (fun h => by have h1 := h k hlt; rw [HFK.out] at h1; cases h1))
      clear hG hR HE5 t0 r0 r1 r2 z0 z1 z2 z3 z4 z5 z6 z7
      go_wp2_with fail
      exact bodyPost_ret (v := .tuple #[vi 0, vi 9]) (by simp [results, Try.results14, go_sem]) rfl ⟨by rw [HFF.out], HN.out⟩
    | true =>
     refine wp_words (by kernel_rfl) (region_told_u 30 (by kernel_rfl) (by kernel_rfl) [false, false, false, false, false, false, false, false, false, false, false, false, false, false, false, false, false, false, false, false, false, false, false, false, false, false, false, false, false, false] (fun W => Below w5.heap.size w5 W) newer [vIs (.pointer (some ⟨bb, 2, none⟩)), vIs (rgV bd.fr), vIs (.slice (some ⟨bt, ot, none⟩) tl.length tc), vIs (vi k), vIs (.pointer (some ⟨bt, ot + k * 3, none⟩)), vIs (.pointer (some ⟨bt, ot + k * 3, none⟩)), vIs (vi y.fr), vIs (.bool true), vIs (.bool false), vIs (.bool false), vIs (.pointer (some ⟨bb, 4, none⟩)), vIs (rgV bd.co), vIs (.slice (some ⟨bt, ot, none⟩) tl.length tc), vIs (vi k), vIs (.pointer (some ⟨bt, ot + k * 3, none⟩)), vIs (.pointer (some ⟨bt, ot + k * 3 + 1, none⟩)), vIs (vi y.co), vIs (.bool true), vIs (.bool false), vIs (.bool false), vIs (.bool false), vIs (.pointer (some ⟨bb, 6, none⟩)), vIs (rgV bd.wa), vIs (.slice (some ⟨bt, ot, none⟩) tl.length tc), vIs (vi k), vIs (.pointer (some ⟨bt, ot + k * 3, none⟩)), vIs (.pointer (some ⟨bt, ot + k * 3 + 2, none⟩)), vIs (vi y.wa), vIs (.bool true), vIs (.bool false)] (by repeat' first | refine And.intro ?_ ?_ | exact trivial | exact rfl | (intro v W h; obtain rfl : v = _ := h; first | rfl | (simp; done) | (simp [undef]; done))) (by repeat' first | refine And.intro ?_ ?_ | exact trivial | exact (fun h => Bool.noConfusion (show false = true from h)) | exact (fun _ _ => rfl)) (fun h k => newer_trans h k) (pickD_stable _ (by repeat' first | refine And.intro ?_ ?_ | exact trivial | exact vIs_st)) (Below.refl _ w5).drew (Below.refl _ _) ?_ ?_)
     ·refine ⟨.inr ?_, .inr ?_, .inr ?_, .inr ?_, .inr ?_, .inr ?_, .inr ?_, .inr ?_, .inr ?_, .inr ?_, .inr ?_, .inr ?_, .inr ?_, .inr ?_, .inr ?_, .inr ?_, .inr ?_, .inr ?_, .inr ?_, .inr ?_, .inr ?_, .inr ?_, .inr ?_, .inr ?_, .inr ?_, .inr ?_, .inr ?_, .inr ?_, .inr ?_, .inr ?_, trivial⟩
      ·intro a W hG hR hO hp; have h11 := hO.slot 11 (by kernel_rfl); refine wp_yields (v := .pointer (some ⟨bb, 2, none⟩)) ?_ ⟨_, rfl, rfl, Below.refl _ _, hG⟩; simp [slotOf] at h11; simp [execOp, go_sem, h11]
      ·intro a W hG hR hO hp; have h35 : slotOf a 35 = .pointer (some ⟨bb, 2, none⟩) := hp.1; have c0 := keep_cell z2 hG; have c1 := keep_cell z3 hG; refine wp_yields (v := rgV bd.fr) ?_ ⟨_, rfl, rfl, Below.refl _ _, hG⟩; simp [slotOf] at h35; simp [execOp, go_sem, h35, c0, c1]
      ·intro a W hG hR hO hp; have h5 := hO.slot 5 (by kernel_rfl); have c0 := keep_cell t0 hG; refine wp_yields (v := .slice (some ⟨bt, ot, none⟩) tl.length tc) ?_ ⟨_, rfl, rfl, Below.refl _ _, hG⟩; simp [slotOf] at h5; simp [execOp, go_sem, h5, c0]
      ·intro a W hG hR hO hp; have h10 := hO.slot 10 (by kernel_rfl); refine wp_yields (v := vi k) ?_ ⟨_, rfl, rfl, Below.refl _ _, hG⟩; simp [slotOf] at h10; simp [execOp, go_sem, h10]
      ·intro a W hG hR hO hp; have h37 : slotOf a 37 = .slice (some ⟨bt, ot, none⟩) tl.length tc := hp.1; have h38 : slotOf a 38 = vi k := hp.2.1; refine wp_yields (v := .pointer (some ⟨bt, ot + k * 3, none⟩)) ?_ ⟨_, rfl, rfl, Below.refl _ _, hG⟩; simp [slotOf] at h37 h38; simp [execOp, go_sem, h37, h38, hkt]
      ·intro a W hG hR hO hp; have h39 : slotOf a 39 = .pointer (some ⟨bt, ot + k * 3, none⟩) := hp.1; refine wp_yields (v := .pointer (some ⟨bt, ot + k * 3, none⟩)) ?_ ⟨_, rfl, rfl, Below.refl _ _, hG⟩; simp [slotOf] at h39; simp [execOp, go_sem, h39]
      ·intro a W hG hR hO hp; have h40 : slotOf a 40 = .pointer (some ⟨bt, ot + k * 3, none⟩) := hp.1; have c0 := keep_cell r0 hG; refine wp_yields (v := vi y.fr) ?_ ⟨_, rfl, rfl, Below.refl _ _, hG⟩; simp [slotOf] at h40; simp [execOp, go_sem, h40, c0]
      ·intro a W hG hR hO hp
       have h36 : slotOf a 36 = rgV bd.fr := hp.1
       have h41 : slotOf a 41 = vi y.fr := hp.2.1
       refine wp_enters (f := 34) (args := #[rgV bd.fr, vi y.fr]) ?_ ((HH1.out W).mono ?_)
       ·simp [slotOf] at h36 h41
        simp [go_sem, h36, h41]
       ·rintro e w' ⟨rfl, hb⟩
        exact ⟨_, rfl, _, rfl, rfl, hb, below_next hG hb⟩
      ·intro a W hG hR hO hp; have h42 : slotOf a 42 = .bool true := hp.1; refine wp_yields (v := .bool false) ?_ ⟨_, rfl, rfl, Below.refl _ _, hG⟩; simp [slotOf] at h42; simp [execOp, go_sem, h42]
      ·intro a W hG hR hO hp; have h43 : slotOf a 43 = .bool false := hp.1; refine wp_yields (v := .bool false) ?_ ⟨_, rfl, rfl, Below.refl _ _, hG⟩; simp [slotOf] at h43; simp [execOp, go_sem, h43]
      ·intro a W hG hR hO hp; have h11 := hO.slot 11 (by kernel_rfl); refine wp_yields (v := .pointer (some ⟨bb, 4, none⟩)) ?_ ⟨_, rfl, rfl, Below.refl _ _, hG⟩; simp [slotOf] at h11; simp [execOp, go_sem, h11]
      ·intro a W hG hR hO hp; have h45 : slotOf a 45 = .pointer (some ⟨bb, 4, none⟩) := hp.1; have c0 := keep_cell z4 hG; have c1 := keep_cell z5 hG; refine wp_yields (v := rgV bd.co) ?_ ⟨_, rfl, rfl, Below.refl _ _, hG⟩; simp [slotOf] at h45; simp [execOp, go_sem, h45, c0, c1]
      ·intro a W hG hR hO hp; have h5 := hO.slot 5 (by kernel_rfl); have c0 := keep_cell t0 hG; refine wp_yields (v := .slice (some ⟨bt, ot, none⟩) tl.length tc) ?_ ⟨_, rfl, rfl, Below.refl _ _, hG⟩; simp [slotOf] at h5; simp [execOp, go_sem, h5, c0]
      ·intro a W hG hR hO hp; have h10 := hO.slot 10 (by kernel_rfl); refine wp_yields (v := vi k) ?_ ⟨_, rfl, rfl, Below.refl _ _, hG⟩; simp [slotOf] at h10; simp [execOp, go_sem, h10]
      ·intro a W hG hR hO hp; have h47 : slotOf a 47 = .slice (some ⟨bt, ot, none⟩) tl.length tc := hp.1; have h48 : slotOf a 48 = vi k := hp.2.1; refine wp_yields (v := .pointer (some ⟨bt, ot + k * 3, none⟩)) ?_ ⟨_, rfl, rfl, Below.refl _ _, hG⟩; simp [slotOf] at h47 h48; simp [execOp, go_sem, h47, h48, hkt]
      ·intro a W hG hR hO hp; have h49 : slotOf a 49 = .pointer (some ⟨bt, ot + k * 3, none⟩) := hp.1; refine wp_yields (v := .pointer (some ⟨bt, ot + k * 3 + 1, none⟩)) ?_ ⟨_, rfl, rfl, Below.refl _ _, hG⟩; simp [slotOf] at h49; simp [execOp, go_sem, h49]
      ·intro a W hG hR hO hp; have h50 : slotOf a 50 = .pointer (some ⟨bt, ot + k * 3 + 1, none⟩) := hp.1; have c0 := keep_cell r1 hG; refine wp_yields (v := vi y.co) ?_ ⟨_, rfl, rfl, Below.refl _ _, hG⟩; simp [slotOf] at h50; simp [execOp, go_sem, h50, c0]
      ·intro a W hG hR hO hp
       have h46 : slotOf a 46 = rgV bd.co := hp.1
       have h51 : slotOf a 51 = vi y.co := hp.2.1
       refine wp_enters (f := 34) (args := #[rgV bd.co, vi y.co]) ?_ ((HH2.out W).mono ?_)
       ·simp [slotOf] at h46 h51
        simp [go_sem, h46, h51]
       ·rintro e w' ⟨rfl, hb⟩
        exact ⟨_, rfl, _, rfl, rfl, hb, below_next hG hb⟩
      ·intro a W hG hR hO hp; have h52 : slotOf a 52 = .bool true := hp.1; refine wp_yields (v := .bool false) ?_ ⟨_, rfl, rfl, Below.refl _ _, hG⟩; simp [slotOf] at h52; simp [execOp, go_sem, h52]
      ·intro a W hG hR hO hp; have h44 : slotOf a 44 = .bool false := hp.1; have h53 : slotOf a 53 = .bool false := hp.2.1; refine wp_yields (v := .bool false) ?_ ⟨_, rfl, rfl, Below.refl _ _, hG⟩; simp [slotOf] at h44 h53; simp [execOp, go_sem, h44, h53]
      ·intro a W hG hR hO hp; have h54 : slotOf a 54 = .bool false := hp.1; refine wp_yields (v := .bool false) ?_ ⟨_, rfl, rfl, Below.refl _ _, hG⟩; simp [slotOf] at h54; simp [execOp, go_sem, h54]
      ·intro a W hG hR hO hp; have h11 := hO.slot 11 (by kernel_rfl); refine wp_yields (v := .pointer (some ⟨bb, 6, none⟩)) ?_ ⟨_, rfl, rfl, Below.refl _ _, hG⟩; simp [slotOf] at h11; simp [execOp, go_sem, h11]
      ·intro a W hG hR hO hp; have h56 : slotOf a 56 = .pointer (some ⟨bb, 6, none⟩) := hp.1; have c0 := keep_cell z6 hG; have c1 := keep_cell z7 hG; refine wp_yields (v := rgV bd.wa) ?_ ⟨_, rfl, rfl, Below.refl _ _, hG⟩; simp [slotOf] at h56; simp [execOp, go_sem, h56, c0, c1]
      ·intro a W hG hR hO hp; have h5 := hO.slot 5 (by kernel_rfl); have c0 := keep_cell t0 hG; refine wp_yields (v := .slice (some ⟨bt, ot, none⟩) tl.length tc) ?_ ⟨_, rfl, rfl, Below.refl _ _, hG⟩; simp [slotOf] at h5; simp [execOp, go_sem, h5, c0]
      ·intro a W hG hR hO hp; have h10 := hO.slot 10 (by kernel_rfl); refine wp_yields (v := vi k) ?_ ⟨_, rfl, rfl, Below.refl _ _, hG⟩; simp [slotOf] at h10; simp [execOp, go_sem, h10]
      ·intro a W hG hR hO hp; have h58 : slotOf a 58 = .slice (some ⟨bt, ot, none⟩) tl.length tc := hp.1; have h59 : slotOf a 59 = vi k := hp.2.1; refine wp_yields (v := .pointer (some ⟨bt, ot + k * 3, none⟩)) ?_ ⟨_, rfl, rfl, Below.refl _ _, hG⟩; simp [slotOf] at h58 h59; simp [execOp, go_sem, h58, h59, hkt]
      ·intro a W hG hR hO hp; have h60 : slotOf a 60 = .pointer (some ⟨bt, ot + k * 3, none⟩) := hp.1; refine wp_yields (v := .pointer (some ⟨bt, ot + k * 3 + 2, none⟩)) ?_ ⟨_, rfl, rfl, Below.refl _ _, hG⟩; simp [slotOf] at h60; simp [execOp, go_sem, h60]
      ·intro a W hG hR hO hp; have h61 : slotOf a 61 = .pointer (some ⟨bt, ot + k * 3 + 2, none⟩) := hp.1; have c0 := keep_cell r2 hG; refine wp_yields (v := vi y.wa) ?_ ⟨_, rfl, rfl, Below.refl _ _, hG⟩; simp [slotOf] at h61; simp [execOp, go_sem, h61, c0]
      ·intro a W hG hR hO hp
       have h57 : slotOf a 57 = rgV bd.wa := hp.1
       have h62 : slotOf a 62 = vi y.wa := hp.2.1
       refine wp_enters (f := 34) (args := #[rgV bd.wa, vi y.wa]) ?_ ((HH3.out W).mono ?_)
       ·simp [slotOf] at h57 h62
        simp [go_sem, h57, h62]
       ·rintro e w' ⟨rfl, hb⟩
        exact ⟨_, rfl, _, rfl, rfl, hb, below_next hG hb⟩
      ·intro a W hG hR hO hp; have h63 : slotOf a 63 = .bool true := hp.1; refine wp_yields (v := .bool false) ?_ ⟨_, rfl, rfl, Below.refl _ _, hG⟩; simp [slotOf] at h63; simp [execOp, go_sem, h63]
     ·intro wz hG hR
      rintro _ rfl _ rfl _ rfl _ rfl _ rfl _ rfl _ rfl _ rfl _ rfl _ rfl _ rfl _ rfl _ rfl _ rfl _ rfl _ rfl _ rfl _ rfl _ rfl _ rfl _ rfl _ rfl _ rfl _ rfl _ rfl _ rfl _ rfl _ rfl _ rfl _ rfl
      change wpList _ _ _ _ _ _
      simp only [Act.put, List.setIfInBounds_toArray, List.set_cons_zero, List.set_cons_succ, List.drop_succ_cons, List.drop_zero]
      have HN := Lib.hid (And.intro (newer_trans HE5.out.1 hG) (And.intro (HE5.out.2.1.below hG HE5.out.2.1.lt) ((HE5.out.2.2.below hG).more hG.size)))
      clear hG hR HE5 t0 r0 r1 r2 z0 z1 z2 z3 z4 z5 z6 z7
      go_wp2_with fail
      refine ⟨⟨k + 1, rfl, by omega, fun i h => ?_, HN.out.1, HN.out.2.1, HN.out.2.2⟩, ?_⟩
      ·by_cases hik : i = k
       ·rw [hik, HFK.out]; rfl
       ·exact HFI.out i (by omega)
      ·simp [intOf]
       omega
   ·obtain rfl : k = bs.length := by omega
    obtain ⟨D, hD⟩ : ∃ D, D = dK bs bs.length := ⟨_, rfl⟩
    obtain ⟨H, hH⟩ : ∃ H, H = hK bs (fun i => tl.getD i ⟨0, 0, 0⟩) bs.length := ⟨_, rfl⟩
    have HRV : Hid (R = if D < 1 then (0, 7) else (factorN H D, 0)) := Lib.hid (by rw [HRR.out, if_pos (fitsA_iff.2 ⟨HLN.out, HFI.out⟩), <- hD, <- hH])
    have HFA : Hid (Calls Try.prog 35 #[.slice A bs.length c, .func (.func 36) #[] #[.pointer (some ⟨w.heap.size + 1 + 1, 0, none⟩)]] wr fun e w' => e = .returned (facV H D) /\ newer wr w') := Lib.hid (by
     rw [hH, hD]
     refine factor_any bs A c 36 #[.pointer (some ⟨w.heap.size + 1 + 1, 0, none⟩)] (fun i => tl.getD i ⟨0, 0, 0⟩) wr (by omega) HJ.out.2.2 HBO.out (fun i hi => ?_) (fun args W => by simp [go_sem]) (fun i b W hb hW => ?_)
     ·obtain ⟨b, hb⟩ := get_of_lt (l := bs) (k := i) hi
      have hge : bs.getD i zeroBd = b := by simp [List.getD, hb]
      have h1 := HFI.out i hi
      rw [hge] at h1
      exact fit_rlB (HBO.out b (List.mem_of_getElem? hb)) h1
     ·obtain ⟨y, hy⟩ := get_of_lt (l := tl) (k := i) (by rw [HLN.out]; exact (List.getElem?_eq_some_iff.1 hb).1)
      have hgy : tl.getD i ⟨0, 0, 0⟩ = y := by simp [List.getD, hy]
      show Calls _ _ _ _ fun e w' => e = .returned (rlV (tl.getD i ⟨0, 0, 0⟩)) /\ newer W w'
      rw [hgy]
      exact truthAt_any tl TA tc _ i b y W (HJ.out.2.1.below hW HJ.out.2.1.lt) ((HOK.out.2.2.below (newer_trans HJ.out.1 hW)).more (newer_trans HJ.out.1 hW).size) hy)
    clear hD hH
    unfold facV at HFA
    by_cases hd1 : D < 1
    ·rw [if_pos hd1] at HFA HRV
     go_wp2_with fail
     refine (HFA.out).mono ?_
     rintro e w6 ⟨rfl, hb⟩
     have HE := Lib.hid (newer_trans HJ.out.1 hb)
     clear hb
     go_wp2_with fail
     exact bodyPost_ret (v := .tuple #[vi 0, vi 7]) (by simp [results, Try.results14, go_sem]) rfl ⟨by rw [HRV.out], HE.out⟩
    ·rw [if_neg hd1] at HFA HRV
     obtain ⟨fv, hfv⟩ : ∃ fv, fv = factorN H D := ⟨_, rfl⟩
     rw [<- hfv] at HFA HRV
     clear hfv
     go_wp2_with fail
     refine (HFA.out).mono ?_
     rintro e w6 ⟨rfl, hb⟩
     have HE := Lib.hid (newer_trans HJ.out.1 hb)
     clear hb
     go_wp2_with fail
     exact bodyPost_ret (v := .tuple #[vi fv, vi 0]) (by simp [results, Try.results14, go_sem]) rfl ⟨by rw [HRV.out], HE.out⟩
 ·rw [if_neg hz] at hR
  have hz2 : (a == 0) = false := by rw [beq_eq_false_iff_ne]; exact hz
  have hz3 : (a != 0) = true := by simp [hz]
  have HRR := Lib.hid hR
  clear HZ hR hz
  go_enter Try.func14, Try.ntmps14
  go_wp2_with fail
  refine (HCU.out).mono ?_
  rintro e w1 ⟨rfl, hb⟩
  have HE := Lib.hid (newer_trans H0.out.1 hb)
  clear H0 hb HCU x0 x1 u0 u1
  go_wp2_with fail
  exact bodyPost_ret (v := .tuple #[vi 0, vi a]) (by simp [results, Try.results14, go_sem]) rfl ⟨by rw [HRR.out], HE.out⟩
end

end Go.Proofs.Ytcdhhfgpdokkoaa
