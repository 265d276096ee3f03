/- The turns of all tools, none of them known. -/
import Derived.Test.YtpmafnifgegfbaaU
import Derived.Laws.CopyOwn
namespace Go.Proofs.Ytpmafnifgegfbaa
open Go.RowKit Go.Shelf Go.Deep

set_option maxRecDepth 100000 in
set_option maxHeartbeats 1000000 in
theorem mul64_any (n : Nat) (w : World) (hn : n ≤ 8) : Calls Try.prog 139 #[.int .u64 1, .int .u64 n] w fun e w' => e = .returned (.tuple #[.int .u64 0, .int .u64 n]) ∧ w = w' := by
  obtain rfl | rfl | rfl | rfl | rfl | rfl | rfl | rfl | rfl : n = 0 ∨ n = 1 ∨ n = 2 ∨ n = 3 ∨ n = 4 ∨ n = 5 ∨ n = 6 ∨ n = 7 ∨ n = 8 := by omega
  all_goals
    go_enter Try.func139, Try.ntmps139
    go_wp2_with fail
    go_ret2
    exact ⟨rfl, rfl⟩
set_option maxRecDepth 100000 in
set_option maxHeartbeats 1000000 in
theorem mul_any (n : Nat) (w : World) (hn : n ≤ 8) : Calls Try.prog 122 #[.int .u64 1, .int .u64 n] w fun e w' => e = .returned (.tuple #[.int .u64 0, .int .u64 n]) ∧ w = w' := by
  have H := Lib.hid (mul64_any n w hn)
  go_enter Try.func122, Try.ntmps122
  go_wp2_with fail
  refine (H.out).mono ?_
  rintro e w' ⟨rfl, rfl⟩
  go_wp2_with fail
  go_ret2
  exact ⟨rfl, rfl⟩
/-- So many elements are free, the others not yet. -/
def freeC (n k : Nat) : List Value := List.replicate k (vi 1048576) ++ List.replicate (n - k) (vi 0)
theorem freeC_splice {n k j : Nat} (h2 : k + j ≤ n) : splice (freeC n k) k (List.replicate j (vi 1048576)) = freeC n (k + j) := by
  unfold splice freeC
  rw [List.take_left' (by simp), List.length_replicate, List.drop_append, List.length_replicate, List.drop_replicate, List.drop_replicate, show k - (k + j) = 0 by omega, show n - k - (k + j - k) = n - (k + j) by omega, List.replicate_zero, List.nil_append, ← List.append_assoc, List.replicate_append_replicate]
theorem freeC_len {n k : Nat} (h : k ≤ n) : (freeC n k).length = n := by unfold freeC; simp; omega
theorem freeC_at {n k j : Nat} (h : j < k) : (freeC n k)[j]? = some (vi 1048576) := by
  unfold freeC
  rw [List.getElem?_append_left (by simp [h]), List.getElem?_replicate, if_pos h]
theorem freeC_done (n : Nat) : freeC n n = List.replicate n (vi 1048576) := by unfold freeC; simp
theorem made_free (n : Nat) : madeCells #[Value.int .i64 0] n = (freeC n 0).toArray := by
  apply Array.ext
  · simp [madeCells, freeC]
  · intro q h1 h2
    simp [madeCells, freeC, Nat.mod_one]
theorem copy_row {W : World} {q n k j : Nat} (h : Whole W q 3 (freeC n k).toArray) (hk : k + j ≤ n) : Whole (W.setRow q ((freeC n k).toArray.toList.take k ++ List.replicate j (vi 1048576) ++ (freeC n k).toArray.toList.drop (k + (List.replicate j (vi 1048576)).length)).toArray) q 3 (freeC n (k + j)).toArray ∧ W.grownBy (W.setRow q ((freeC n k).toArray.toList.take k ++ List.replicate j (vi 1048576) ++ (freeC n k).toArray.toList.drop (k + (List.replicate j (vi 1048576)).length)).toArray) (some q) := by
  have h1 := freeC_splice (n := n) (k := k) (j := j) hk
  unfold splice at h1
  rw [List.append_assoc, List.toList_toArray, h1]
  exact ⟨h.setRow _, ⟨rfl, rfl, rfl, by simp [World.setRow], fun i hi hne => setRow_other W q i _ (fun e => hne (by rw [e]))⟩⟩
theorem below_of_row {w W W' : World} {q : Nat} (h : newer w W) (hq : w.heap.size ≤ q) (hg : W.grownBy W' (some q)) : newer w W' := Below.trans h (below_of_grown hg hq h.size)
theorem info_size3 : (Try.prog.info? 3).map (·.size) = some 1 := by kernel_rfl
set_option maxRecDepth 100000 in
set_option maxHeartbeats 1000000 in
theorem repeat_any (n g : Nat) (w : World) (hn : n ≤ 8) (hg : Whole w g 3 #[vi 1048576]) : Calls Try.prog 95 #[.slice (some ⟨g, 0, none⟩) 1 1, .int .i64 n] w fun e w' => ∃ q, e = .returned (.slice (some ⟨q, 0, none⟩) n n) ∧ Whole w' q 3 (freeC n n).toArray ∧ w.heap.size ≤ q ∧ newer w w' := by
  have H := Lib.hid (mul_any n w hn)
  have hmk := fun W => run_make_row' (P := Try.prog) 24 3 (.int .i64 0) 8 Try.underlying24 info_int rfl .i64 .i64 n (by omega) (by omega) W
  have HG := Lib.hid hg
  clear hg
  go_enter Try.func95, Try.ntmps95
  go_wp2_with fail
  have HMK := Lib.hid (made_free n)
  refine (H.out).mono ?_
  rintro e w1 ⟨rfl, rfl⟩
  obtain ⟨q, hq⟩ : ∃ q, q = w.heap.size := ⟨_, rfl⟩
  have HQ := Lib.hid (show w.heap.size ≤ q from Nat.le_of_eq hq.symm)
  have HW0 : Hid (Whole (w.alloc (.cells (madeCells #[Value.int .i64 0] n) 3)) q 3 (freeC n 0).toArray ∧ newer w (w.alloc (.cells (madeCells #[Value.int .i64 0] n) 3)) ∧ Whole (w.alloc (.cells (madeCells #[Value.int .i64 0] n) 3)) g 3 #[vi 1048576]) := Lib.hid (by
    rw [HMK.out, hq]
    exact ⟨Whole.made w 3 _, newer_allocH _ _, HG.out.alloc _⟩)
  obtain ⟨m, hm⟩ : ∃ m, m = Nat.min 1 n := ⟨_, rfl⟩
  have hmn : m ≤ n := by rw [hm]; exact Nat.min_le_right _ _
  have hm0 : m = 0 → n = 0 := fun h => by
    rcases Nat.eq_zero_or_pos n with h2 | h2
    · exact h2
    · have h3 : Nat.min 1 n = 1 := Nat.min_eq_left h2
      omega
  have HM := Lib.hid hm
  have HCQ : Hid (∀ j v, (List.replicate m (vi 1048576))[j]? = some v → (w.alloc (.cells (madeCells #[Value.int .i64 0] n) 3)).cell? ((⟨g, 0, none⟩ : Addr).add j) = some v) := Lib.hid (by
    intro j v hv
    rw [List.getElem?_replicate] at hv
    split at hv
    · injection hv with hv
      rw [← hv, add_row]
      have hj : j = 0 := by have : m ≤ 1 := by rw [hm]; exact Nat.min_le_left _ _
                            omega
      rw [hj]
      exact HW0.out.2.2.at 0 rfl
    · cases hv)
  clear hm
  go_wp2_with (refine wpList_copy_splice rfl (.tmp 31) (.tmp 32) 24 24 rfl 3 Try.underlying24 info_size3 _ _ _ _ _ _ rfl rfl q 0 (freeC n 0) 3 HW0.out.1 (List.replicate m (vi 1048576)) (by rw [List.length_replicate]; exact HM.out) (fun _ => ⟨by rw [hq], _, rfl, HCQ.out⟩) (by rw [freeC_len (Nat.zero_le _), List.length_replicate]; omega) (fun v hv => by rw [(List.mem_replicate.1 hv).2]; rfl) w.heap.size w HW0.out.2.1 HQ.out ?_; intro w2 hw2 hb2; have HW2 := Lib.hid (And.intro (hw2.out) hb2); clear hw2 hb2)
  obtain ⟨hw2a, hw2b⟩ := HW2.out
  have hsp := freeC_splice (n := n) (k := 0) (j := m) (by omega)
  rw [Nat.zero_add] at hsp
  rw [hsp] at hw2a
  have HW3 : Hid (newer w w2 ∧ Whole w2 q 3 (freeC n m).toArray) := Lib.hid ⟨hw2b, hw2a⟩
  rw [← hq]
  clear hsp hw2a hw2b HW2 hq hmk
  go_loopw [8] (fun s8 wr => ∃ k : Nat, s8 = vi k ∧ k ≤ n ∧ (k = 0 → n = 0) ∧ newer w wr ∧ Whole wr q 3 (freeC n k).toArray) (fun s8 _ => n - (intOf s8).toNat)
  case atStart => exact ⟨m, rfl, hmn, hm0, HW3.out.1, HW3.out.2⟩
  case round =>
    obtain ⟨k, rfl, hk, hk0, hnw, hwh⟩ := hrel
    by_cases hlt : k < n
    · obtain ⟨j, hj⟩ : ∃ j, j = Nat.min k (n - k) := ⟨_, rfl⟩
      have hj1 : j ≤ k := by rw [hj]; exact Nat.min_le_left _ _
      have hj2 : j ≤ n - k := by rw [hj]; exact Nat.min_le_right _ _
      have hj3 : 0 < j := by rw [hj]; exact Nat.lt_min.2 ⟨by omega, by omega⟩
      have HJM := Lib.hid hj
      have HJN := Lib.hid (show k + j ≤ n by omega)
      have HKN := Lib.hid hk
      have HNW := Lib.hid hnw
      have HWH := Lib.hid (And.intro hnw hwh)
      have HCA : Hid (∀ (i : Nat) (v : Value) (W : World), Whole W q 3 (freeC n k).toArray → (List.replicate j (vi 1048576))[i]? = some v → W.cell? ((⟨q, 0, none⟩ : Addr).add i) = some v) := Lib.hid (by
        intro i v W hW hv
        rw [List.getElem?_replicate] at hv
        split at hv
        · injection hv with hv
          rw [← hv, add_row, Nat.zero_add]
          exact hW.at i (by rw [List.getElem?_toArray]; exact freeC_at (by omega))
        · cases hv)
      have hk1 : (k : Int) ≤ n := by omega
      have hnk : ¬ n = k := by omega
      have hkj : IntKind.i64.wrap ((k : Int) + j) = ((k + j : Nat) : Int) := by rw [show (k : Int) + j = ((k + j : Nat) : Int) by omega]; exact IntWalk.i64_in _ (by omega)
      clear hj hnw hwh HW3
      go_upto_region 9 with fail
      refine wp_words (by kernel_rfl) (region_tale 9 (by kernel_rfl) (by kernel_rfl) 7 (fun W => newer w W) (fun W => Whole W q 3 (freeC n k).toArray) (relAt 7 (fun W W' => W.grownBy W' (some q))) (pickD [vIs (.int .i64 k), vIs (.slice (some ⟨q, 0, none⟩) n n), vIs (.int .i64 k), vIs (.slice (some ⟨q, k, none⟩) (n - k) (n - k)), vIs (.slice (some ⟨q, 0, none⟩) n n), vIs (.int .i64 k), vIs (.slice (some ⟨q, 0, none⟩) k n), (fun v W => v = .int .i64 j ∧ Whole W q 3 (freeC n (k + j)).toArray), vIs (.int .i64 ((k + j : Nat) : Int))]) (allBut_ok (fun _ _ h => grown_of_newer h _) _ ⟨vIs_st, vIs_st, vIs_st, vIs_st, vIs_st, vIs_st, vIs_st, (fun v W W' h hb => ⟨h.1, h.2.below hb h.2.lt⟩), vIs_st, trivial⟩) (by decide) (newer_trans HNW.out (newer_drew_ _)) HWH.out.2 ?_ ?_)
      · refine ⟨?_, ?_, ?_, ?_, ?_, ?_, ?_, ?_, ?_, trivial⟩
        · intro a W hG hG1 hO hp
          have h8 := hO.slot 8 (by kernel_rfl)
          refine wp_yields (v := .int .i64 k) ?_ ⟨_, rfl, rfl, newer_refl _, hG, fun _ h => h⟩
          simp [slotOf] at h8
          simp [execOp, go_sem, h8]
        · intro a W hG hG1 hO hp
          have h7 := hO.slot 7 (by kernel_rfl)
          refine wp_yields (v := .slice (some ⟨q, 0, none⟩) n n) ?_ ⟨_, rfl, rfl, newer_refl _, hG, fun _ h => h⟩
          simp [slotOf] at h7
          simp [execOp, go_sem, h7]
        · intro a W hG hG1 hO hp
          have h8 := hO.slot 8 (by kernel_rfl)
          refine wp_yields (v := .int .i64 k) ?_ ⟨_, rfl, rfl, newer_refl _, hG, fun _ h => h⟩
          simp [slotOf] at h8
          simp [execOp, go_sem, h8]
        · intro a W hG hG1 hO hp
          have h39 : slotOf a 39 = .slice (some ⟨q, 0, none⟩) n n := hp.1
          have h40 : slotOf a 40 = .int .i64 k := hp.2.1
          refine wp_yields (v := .slice (some ⟨q, k, none⟩) (n - k) (n - k)) ?_ ⟨_, rfl, rfl, newer_refl _, hG, fun _ h => h⟩
          simp [slotOf] at h39 h40
          simp [execOp, go_sem, h39, h40, hk1, hnk]
        · intro a W hG hG1 hO hp
          have h7 := hO.slot 7 (by kernel_rfl)
          refine wp_yields (v := .slice (some ⟨q, 0, none⟩) n n) ?_ ⟨_, rfl, rfl, newer_refl _, hG, fun _ h => h⟩
          simp [slotOf] at h7
          simp [execOp, go_sem, h7]
        · intro a W hG hG1 hO hp
          have h8 := hO.slot 8 (by kernel_rfl)
          refine wp_yields (v := .int .i64 k) ?_ ⟨_, rfl, rfl, newer_refl _, hG, fun _ h => h⟩
          simp [slotOf] at h8
          simp [execOp, go_sem, h8]
        · intro a W hG hG1 hO hp
          have h42 : slotOf a 42 = .slice (some ⟨q, 0, none⟩) n n := hp.1
          have h43 : slotOf a 43 = .int .i64 k := hp.2.1
          refine wp_yields (v := .slice (some ⟨q, 0, none⟩) k n) ?_ ⟨_, rfl, rfl, newer_refl _, hG, fun _ h => h⟩
          simp [slotOf] at h42 h43
          simp [execOp, go_sem, h42, h43, hk1]
        · intro a W hG hG1 hO hp
          have h41 : slotOf a 41 = .slice (some ⟨q, k, none⟩) (n - k) (n - k) := hp.1
          have h44 : slotOf a 44 = .slice (some ⟨q, 0, none⟩) k n := hp.2.1
          have hW := hG1 rfl
          have hrun := fun ty => run_copy_row (P := Try.prog) W 24 24 ty 3 q k (n - k) (n - k) ⟨q, 0, none⟩ k n (freeC n k).toArray 3 (List.replicate j (vi 1048576)) Try.underlying24 info_size3 hW (by rw [List.length_replicate]; exact HJM.out) (fun i v hv => HCA.out i v W hW hv) (by rw [List.length_replicate, List.size_toArray, freeC_len HKN.out]; omega) (fun v hv => by rw [(List.mem_replicate.1 hv).2]; rfl)
          have hset := copy_row hW (show k + j ≤ n from HJN.out)
          simp [slotOf] at h41 h44
          refine wp_makes (v := .int .i64 j) (W' := W.setRow q ((freeC n k).toArray.toList.take k ++ List.replicate j (vi 1048576) ++ (freeC n k).toArray.toList.drop (k + (List.replicate j (vi 1048576)).length)).toArray) ?_ ⟨_, rfl, ⟨rfl, hset.1⟩, hset.2, below_of_row hG HQ.out hset.2, fun e => absurd rfl e⟩
          simp [go_sem, h41, h44, hrun, goInt]
        · intro a W hG hG1 hO hp
          have h38 : slotOf a 38 = .int .i64 k := hp.1
          have h45 := hp.2.1
          have h45 := h45.1
          simp [slotOf] at h38 h45
          refine wp_yields (v := .int .i64 ((k + j : Nat) : Int)) ?_ ⟨_, rfl, rfl, newer_refl _, hG, fun _ h => h⟩
          simp [execOp, go_sem, h38, h45, hkj]
      · intro W hG
        rintro _ rfl _ rfl _ rfl _ rfl _ rfl _ rfl _ rfl _ hw2 _ rfl
        change wpList _ _ _ _ _ _
        simp only [Act.put, List.setIfInBounds_toArray, List.set_cons_zero, List.set_cons_succ, List.drop_succ_cons, List.drop_zero]
        have HE := Lib.hid (And.intro hG hw2.2)
        clear hG hw2
        go_wp2_with fail
        go_roundw
        case rel => exact ⟨k + j, rfl, by omega, fun h => by omega, HE.out.1, HE.out.2⟩
        case measure => simp [intOf]; omega
    · obtain rfl : k = n := by omega
      have HE := Lib.hid (And.intro hnw hwh)
      clear hnw hwh HW3
      go_wp2_with fail
      go_ret
      exact ⟨q, rfl, HE.out.2, HQ.out, HE.out.1⟩
theorem free_cells (s : Sd) : (freeC s.tools.length s.tools.length).toArray.toList = (freeL s).flatMap koL := by
  rw [freeC_done]
  unfold freeL
  generalize s.tools.length = n
  induction n with
  | zero => rfl
  | succ n ih =>
    rw [List.replicate_succ, List.replicate_succ, List.flatMap_cons, ← ih]
    rfl
set_option maxRecDepth 100000 in
set_option maxHeartbeats 1000000 in
theorem open_any (y : Sm) (w : World) (hf : y.s.tools.length ≤ 8) : Calls Try.prog 62 #[smV y] w fun e w' => ∃ q, e = .returned (.slice (some ⟨q, 0, none⟩) (freeL y.s).length (freeL y.s).length) ∧ Whole w' q 3 (freeC y.s.tools.length y.s.tools.length).toArray ∧ w.heap.size ≤ q ∧ newer w w' := by
  have hnw := newer_trans (newer_allocH w (.cells (smC y) 40)) (newer_allocH (w.alloc (.cells (smC y) 40)) (.cells #[vi 1048576] 3))
  have hbx := (Whole.made w 40 (smC y)).alloc (.cells #[vi 1048576] 3)
  have hcx := Whole.made (w.alloc (.cells (smC y) 40)) 3 #[vi 1048576]
  rw [World.size_alloc] at hcx
  have HR := Lib.hid (repeat_any y.s.tools.length (w.heap.size + 1) _ hf hcx)
  have HN := Lib.hid hnw
  have x2 := hbx.at 2 (v := .slice y.ta y.s.tools.length y.tc) rfl
  have HL := Lib.hid (show (freeL y.s).length = y.s.tools.length by unfold freeL; rw [List.length_replicate])
  rw [HL.out]
  clear hnw hbx hcx
  go_enter Try.func62, Try.ntmps62
  go_wp2_with fail
  refine (HR.out).mono ?_
  rintro e w' ⟨q, rfl, h1, h2, h3⟩
  have HE := Lib.hid (And.intro h1 (And.intro h2 h3))
  clear h1 h2 h3 HR
  go_wp2_with fail
  go_ret
  exact ⟨q, rfl, HE.out.1, Nat.le_trans HN.out.size HE.out.2.1, newer_trans HN.out HE.out.2.2⟩

end Go.Proofs.Ytpmafnifgegfbaa
