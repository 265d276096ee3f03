/- What a bed holds, the truths of its ends, what it costs; the least of two numbers. -/
import Derived.Test.YtkenokpobbichaaB
namespace Go.Proofs.Ytkenokpobbichaa
open Go.RowKit Go.Deep

set_option maxHeartbeats 1000000 in
theorem holds_any (b : Bd) (x : Rl) (w : World) (hn : 0 ≤ b.normal ∧ b.normal ≤ 100000) (h1 : 0 ≤ x.fr ∧ x.fr ≤ 2000) (h2 : 0 ≤ x.co ∧ x.co ≤ 100000) (h3 : 0 ≤ x.wa ∧ x.wa ≤ 100000) :
    Calls Try.prog 89 #[bdV b, rlV x] w fun e w' => e = .returned (vi (holdsN b x)) ∧ newer w w' := by
  have hp := holds_bd (b := b) (x := x) hn h1 h2 h3.1
  obtain ⟨drive, normal, fr, co, wa⟩ := b
  obtain ⟨xf, xc, xw⟩ := x
  unfold holdsN at hp ⊢
  dsimp only at hn h1 h2 h3 hp ⊢
  have HN := Lib.hid (newer_trans (newer_allocH w (.cells #[vi drive, vi normal, vi fr.lo, vi fr.hi, vi co.lo, vi co.hi, vi wa.lo, vi wa.hi] 104)) (newer_allocH (w.alloc (.cells #[vi drive, vi normal, vi fr.lo, vi fr.hi, vi co.lo, vi co.hi, vi wa.lo, vi wa.hi] 104)) (.cells #[vi xf, vi xc, vi xw] 101)))
  by_cases hd : 0 < normal - xw
  · have e : mxI 0 (normal - xw) = normal - xw := by unfold mxI; rw [if_pos hd]
    rw [e] at hp ⊢
    have hd2 : xw < normal := by omega
    clear e
    go_enter Try.func89, Try.ntmps89
    go_wp2_with fail
    all_goals first
      | (exfalso; omega)
      | (go_ret; exact ⟨rfl, HN.out⟩)
  · have e : mxI 0 (normal - xw) = 0 := by unfold mxI; rw [if_neg hd]
    rw [e] at hp ⊢
    have hd2 : ¬ xw < normal := by omega
    simp only [Int.zero_mul, Int.zero_ediv, Int.zero_add] at hp ⊢
    clear e
    go_enter Try.func89, Try.ntmps89
    go_wp2_with fail
    all_goals first
      | (exfalso; omega)
      | (go_ret; exact ⟨rfl, HN.out⟩)
theorem call_end (g : Bool) (args : Array Value) (W : World) : (callFunc (endG g) args).run Try.prog W = .ok (.enter (endG g) args) W := by
  cases g <;> simp [endG, go_sem]
theorem endR_is (hs : Bool) (b : Bd) : (⟨endI hs b.fr, endI hs b.co, endI (!hs) b.wa⟩ : Rl) = endR hs b := by cases hs <;> rfl
set_option maxRecDepth 100000 in
set_option maxHeartbeats 2000000 in
theorem real_any (hs : Bool) (b : Bd) (w : World) : Calls Try.prog 90 #[bdV b, .func (.func (endG hs)) #[] #[], .func (.func (endG (!hs))) #[] #[]] w fun e w' => e = .returned (rlV (endR hs b)) ∧ newer w w' := by
  have hnw := newer_trans (newer_allocH w (.cells (bdC b) 104)) (newer_allocH (w.alloc (.cells (bdC b) 104)) (.cells #[vi 0, vi 0, vi 0] 101))
  have hbx := (Whole.made w 104 (bdC b)).alloc (.cells #[vi 0, vi 0, vi 0] 101)
  have hrb := Whole.made (w.alloc (.cells (bdC b) 104)) 101 #[vi 0, vi 0, vi 0]
  simp only [World.size_alloc] at hrb
  rw [← endR_is]
  have H1 := Lib.hid (And.intro (hnw) (And.intro (hbx) (hrb)))
  clear hnw hbx hrb
  have x0 := H1.out.2.1.at 0 (v := vi b.drive) rfl
  have x1 := H1.out.2.1.at 1 (v := vi b.normal) rfl
  have x2 := H1.out.2.1.at 2 (v := vi b.fr.lo) rfl
  have x3 := H1.out.2.1.at 3 (v := vi b.fr.hi) rfl
  have x4 := H1.out.2.1.at 4 (v := vi b.co.lo) rfl
  have x5 := H1.out.2.1.at 5 (v := vi b.co.hi) rfl
  have x6 := H1.out.2.1.at 6 (v := vi b.wa.lo) rfl
  have x7 := H1.out.2.1.at 7 (v := vi b.wa.hi) rfl
  go_enter Try.func90, Try.ntmps90
  go_upto_region 1 with fail
  refine wp_words (by kernel_rfl) (region_told 13 (by kernel_rfl) (by kernel_rfl) (fun W => Below ((w.alloc (.cells (bdC b) 104)).alloc (.cells #[vi 0, vi 0, vi 0] 101)).heap.size ((w.alloc (.cells (bdC b) 104)).alloc (.cells #[vi 0, vi 0, vi 0] 101)) W) newer (pickD [vIs (.func (.func (endG hs)) #[] #[]), vIs (.pointer (some ⟨w.heap.size, 2, none⟩)), vIs (rgV b.fr), vIs (vi (endI hs b.fr)), vIs (.func (.func (endG hs)) #[] #[]), vIs (.pointer (some ⟨w.heap.size, 4, none⟩)), vIs (rgV b.co), vIs (vi (endI hs b.co)), vIs (.func (.func (endG (!hs))) #[] #[]), vIs (.pointer (some ⟨w.heap.size, 6, none⟩)), vIs (rgV b.wa), vIs (vi (endI (!hs) b.wa)), vIs (.agg #[vi (endI hs b.fr), vi (endI hs b.co), vi (endI (!hs) b.wa)])]) (fun h k => newer_trans h k) (pickD_stable _ ⟨vIs_st, vIs_st, vIs_st, vIs_st, vIs_st, vIs_st, vIs_st, vIs_st, vIs_st, vIs_st, vIs_st, vIs_st, vIs_st, trivial⟩) (Below.refl _ ((w.alloc (.cells (bdC b) 104)).alloc (.cells #[vi 0, vi 0, vi 0] 101))).drew (Below.refl _ _) ?_ ?_)
  · refine ⟨?_, ?_, ?_, ?_, ?_, ?_, ?_, ?_, ?_, ?_, ?_, ?_, ?_, trivial⟩
    · intro a W hG hR hO hp
      have h1 := hO.slot 1 (by kernel_rfl)
      refine wp_yields (v := .func (.func (endG hs)) #[] #[]) ?_ ⟨_, rfl, rfl, Below.refl _ _, hG⟩
      simp [slotOf] at h1
      simp [execOp, go_sem, h1]
    · intro a W hG hR hO hp
      have h3 := hO.slot 3 (by kernel_rfl)
      refine wp_yields (v := .pointer (some ⟨w.heap.size, 2, none⟩)) ?_ ⟨_, rfl, rfl, Below.refl _ _, hG⟩
      simp [slotOf] at h3
      simp [execOp, go_sem, h3]
    · intro a W hG hR hO hp
      have h8 : slotOf a 8 = .pointer (some ⟨w.heap.size, 2, none⟩) := hp.1
      have c0 := keep_cell x2 hG
      have c1 := keep_cell x3 hG
      refine wp_yields (v := rgV b.fr) ?_ ⟨_, rfl, rfl, Below.refl _ _, hG⟩
      simp [slotOf] at h8
      simp [execOp, go_sem, h8, c0, c1]
    · intro a W hG hR hO hp
      have h7 : slotOf a 7 = .func (.func (endG hs)) #[] #[] := hp.1
      have h9 : slotOf a 9 = rgV b.fr := hp.2.1
      refine wp_enters (f := (endG hs)) (args := #[rgV b.fr]) ?_ ((end_any hs b.fr W).mono ?_)
      · simp [slotOf] at h7 h9
        simp [execOp, go_sem, h7, h9, call_end]
      · rintro e w' ⟨rfl, hb⟩
        exact ⟨_, rfl, _, rfl, rfl, hb, below_next hG hb⟩
    · intro a W hG hR hO hp
      have h1 := hO.slot 1 (by kernel_rfl)
      refine wp_yields (v := .func (.func (endG hs)) #[] #[]) ?_ ⟨_, rfl, rfl, Below.refl _ _, hG⟩
      simp [slotOf] at h1
      simp [execOp, go_sem, h1]
    · intro a W hG hR hO hp
      have h3 := hO.slot 3 (by kernel_rfl)
      refine wp_yields (v := .pointer (some ⟨w.heap.size, 4, none⟩)) ?_ ⟨_, rfl, rfl, Below.refl _ _, hG⟩
      simp [slotOf] at h3
      simp [execOp, go_sem, h3]
    · intro a W hG hR hO hp
      have h12 : slotOf a 12 = .pointer (some ⟨w.heap.size, 4, none⟩) := hp.1
      have c0 := keep_cell x4 hG
      have c1 := keep_cell x5 hG
      refine wp_yields (v := rgV b.co) ?_ ⟨_, rfl, rfl, Below.refl _ _, hG⟩
      simp [slotOf] at h12
      simp [execOp, go_sem, h12, c0, c1]
    · intro a W hG hR hO hp
      have h11 : slotOf a 11 = .func (.func (endG hs)) #[] #[] := hp.1
      have h13 : slotOf a 13 = rgV b.co := hp.2.1
      refine wp_enters (f := (endG hs)) (args := #[rgV b.co]) ?_ ((end_any hs b.co W).mono ?_)
      · simp [slotOf] at h11 h13
        simp [execOp, go_sem, h11, h13, call_end]
      · rintro e w' ⟨rfl, hb⟩
        exact ⟨_, rfl, _, rfl, rfl, hb, below_next hG hb⟩
    · intro a W hG hR hO hp
      have h2 := hO.slot 2 (by kernel_rfl)
      refine wp_yields (v := .func (.func (endG (!hs))) #[] #[]) ?_ ⟨_, rfl, rfl, Below.refl _ _, hG⟩
      simp [slotOf] at h2
      simp [execOp, go_sem, h2]
    · intro a W hG hR hO hp
      have h3 := hO.slot 3 (by kernel_rfl)
      refine wp_yields (v := .pointer (some ⟨w.heap.size, 6, none⟩)) ?_ ⟨_, rfl, rfl, Below.refl _ _, hG⟩
      simp [slotOf] at h3
      simp [execOp, go_sem, h3]
    · intro a W hG hR hO hp
      have h16 : slotOf a 16 = .pointer (some ⟨w.heap.size, 6, none⟩) := hp.1
      have c0 := keep_cell x6 hG
      have c1 := keep_cell x7 hG
      refine wp_yields (v := rgV b.wa) ?_ ⟨_, rfl, rfl, Below.refl _ _, hG⟩
      simp [slotOf] at h16
      simp [execOp, go_sem, h16, c0, c1]
    · intro a W hG hR hO hp
      have h15 : slotOf a 15 = .func (.func (endG (!hs))) #[] #[] := hp.1
      have h17 : slotOf a 17 = rgV b.wa := hp.2.1
      refine wp_enters (f := (endG (!hs))) (args := #[rgV b.wa]) ?_ ((end_any (!hs) b.wa W).mono ?_)
      · simp [slotOf] at h15 h17
        simp [execOp, go_sem, h15, h17, call_end]
      · rintro e w' ⟨rfl, hb⟩
        exact ⟨_, rfl, _, rfl, rfl, hb, below_next hG hb⟩
    · intro a W hG hR hO hp
      have h10 : slotOf a 10 = vi (endI hs b.fr) := hp.1
      have h14 : slotOf a 14 = vi (endI hs b.co) := hp.2.1
      have h18 : slotOf a 18 = vi (endI (!hs) b.wa) := hp.2.2.1
      refine wp_yields (v := .agg #[vi (endI hs b.fr), vi (endI hs b.co), vi (endI (!hs) b.wa)]) ?_ ⟨_, rfl, rfl, Below.refl _ _, hG⟩
      simp [slotOf] at h10 h14 h18
      simp [execOp, go_sem, h10, h14, h18]
  · intro wz hG hR
    rintro _ rfl _ rfl _ rfl _ rfl _ rfl _ rfl _ rfl _ rfl _ rfl _ rfl _ rfl _ rfl _ rfl
    change wpList _ _ _ _ _ _
    simp only [Act.put, List.setIfInBounds_toArray, List.set_cons_zero, List.set_cons_succ, List.drop_succ_cons, List.drop_zero]
    clear hR
    have H2 := Lib.hid (And.intro ((newer_trans H1.out.1 hG)) (And.intro ((H1.out.2.1.below hG H1.out.2.1.lt)) ((H1.out.2.2.below hG H1.out.2.2.lt))))
    clear hG H1 x0 x1 x2 x3 x4 x5 x6 x7
    have f0 := H2.out.2.2.free 0
    have f1 := H2.out.2.2.free 1
    have f2 := H2.out.2.2.free 2
    have r0 := H2.out.2.2.at 0 (v := vi 0) rfl
    have r1 := H2.out.2.2.at 1 (v := vi 0) rfl
    have r2 := H2.out.2.2.at 2 (v := vi 0) rfl
    go_wp2_with fail
    have HZ := Lib.hid (And.intro (((H2.out.1.setCell (p := ⟨w.heap.size + 1, 0, none⟩) (Nat.le_succ _) (vi (endI hs b.fr))).setCell (p := ⟨w.heap.size + 1, 1, none⟩) (Nat.le_succ _) (vi (endI hs b.co))).setCell (p := ⟨w.heap.size + 1, 2, none⟩) (Nat.le_succ _) (vi (endI (!hs) b.wa))) (((H2.out.2.2.set 0 (vi (endI hs b.fr))).set 1 (vi (endI hs b.co))).set 2 (vi (endI (!hs) b.wa))))
    have z0 := HZ.out.2.at 0 (v := vi (endI hs b.fr)) rfl
    have z1 := HZ.out.2.at 1 (v := vi (endI hs b.co)) rfl
    have z2 := HZ.out.2.at 2 (v := vi (endI (!hs) b.wa)) rfl
    exact bodyPost_ret (v := .agg #[vi (endI hs b.fr), vi (endI hs b.co), vi (endI (!hs) b.wa)]) (by simp [results, Try.results90, go_sem, z0, z1, z2]) rfl ⟨rfl, HZ.out.1⟩
set_option maxHeartbeats 1000000 in
theorem least_any (b : Bd) (w : World) : Calls Try.prog 61 #[bdV b] w fun e w' => e = .returned (rlV (endR false b)) ∧ newer w w' := by
  have hnw := newer_trans (newer_allocH w (.cells (bdC b) 104)) (newer_allocH (w.alloc (.cells (bdC b) 104)) (.cells #[vi 0, vi 0, vi 0] 101))
  have hbx := (Whole.made w 104 (bdC b)).alloc (.cells #[vi 0, vi 0, vi 0] 101)
  have hrb := Whole.made (w.alloc (.cells (bdC b) 104)) 101 #[vi 0, vi 0, vi 0]
  simp only [World.size_alloc] at hrb
  obtain ⟨x, hx⟩ : ∃ x, x = endR false b := ⟨_, rfl⟩
  have HA := Lib.hid (fun W => real_any false b W)
  rw [← hx] at HA ⊢
  clear hx
  have H1 := Lib.hid (And.intro (hnw) (And.intro (hbx) (hrb)))
  clear hnw hbx hrb
  have x0 := H1.out.2.1.at 0 (v := vi b.drive) rfl
  have x1 := H1.out.2.1.at 1 (v := vi b.normal) rfl
  have x2 := H1.out.2.1.at 2 (v := vi b.fr.lo) rfl
  have x3 := H1.out.2.1.at 3 (v := vi b.fr.hi) rfl
  have x4 := H1.out.2.1.at 4 (v := vi b.co.lo) rfl
  have x5 := H1.out.2.1.at 5 (v := vi b.co.hi) rfl
  have x6 := H1.out.2.1.at 6 (v := vi b.wa.lo) rfl
  have x7 := H1.out.2.1.at 7 (v := vi b.wa.hi) rfl
  go_enter Try.func61, Try.ntmps61
  go_wp2_with fail
  refine (HA.out _).mono ?_
  rintro e w2 ⟨rfl, hb⟩
  have H3 := Lib.hid (And.intro ((newer_trans H1.out.1 hb)) (And.intro ((H1.out.2.1.below hb H1.out.2.1.lt)) ((H1.out.2.2.below hb H1.out.2.2.lt))))
  clear hb HA H1 x0 x1 x2 x3 x4 x5 x6 x7
  have f0 := H3.out.2.2.free 0
  have f1 := H3.out.2.2.free 1
  have f2 := H3.out.2.2.free 2
  have r0 := H3.out.2.2.at 0 (v := vi 0) rfl
  have r1 := H3.out.2.2.at 1 (v := vi 0) rfl
  have r2 := H3.out.2.2.at 2 (v := vi 0) rfl
  go_wp2_with fail
  have HZ := Lib.hid (And.intro (((H3.out.1.setCell (p := ⟨w.heap.size + 1, 0, none⟩) (Nat.le_succ _) (vi x.fr)).setCell (p := ⟨w.heap.size + 1, 1, none⟩) (Nat.le_succ _) (vi x.co)).setCell (p := ⟨w.heap.size + 1, 2, none⟩) (Nat.le_succ _) (vi x.wa)) (((H3.out.2.2.set 0 (vi x.fr)).set 1 (vi x.co)).set 2 (vi x.wa)))
  have z0 := HZ.out.2.at 0 (v := vi x.fr) rfl
  have z1 := HZ.out.2.at 1 (v := vi x.co) rfl
  have z2 := HZ.out.2.at 2 (v := vi x.wa) rfl
  exact bodyPost_ret (v := .agg #[vi x.fr, vi x.co, vi x.wa]) (by simp [results, Try.results61, go_sem, z0, z1, z2]) rfl ⟨rfl, HZ.out.1⟩
set_option maxHeartbeats 1000000 in
theorem most_any (b : Bd) (w : World) : Calls Try.prog 63 #[bdV b] w fun e w' => e = .returned (rlV (endR true b)) ∧ newer w w' := by
  have hnw := newer_trans (newer_allocH w (.cells (bdC b) 104)) (newer_allocH (w.alloc (.cells (bdC b) 104)) (.cells #[vi 0, vi 0, vi 0] 101))
  have hbx := (Whole.made w 104 (bdC b)).alloc (.cells #[vi 0, vi 0, vi 0] 101)
  have hrb := Whole.made (w.alloc (.cells (bdC b) 104)) 101 #[vi 0, vi 0, vi 0]
  simp only [World.size_alloc] at hrb
  obtain ⟨x, hx⟩ : ∃ x, x = endR true b := ⟨_, rfl⟩
  have HA := Lib.hid (fun W => real_any true b W)
  rw [← hx] at HA ⊢
  clear hx
  have H1 := Lib.hid (And.intro (hnw) (And.intro (hbx) (hrb)))
  clear hnw hbx hrb
  have x0 := H1.out.2.1.at 0 (v := vi b.drive) rfl
  have x1 := H1.out.2.1.at 1 (v := vi b.normal) rfl
  have x2 := H1.out.2.1.at 2 (v := vi b.fr.lo) rfl
  have x3 := H1.out.2.1.at 3 (v := vi b.fr.hi) rfl
  have x4 := H1.out.2.1.at 4 (v := vi b.co.lo) rfl
  have x5 := H1.out.2.1.at 5 (v := vi b.co.hi) rfl
  have x6 := H1.out.2.1.at 6 (v := vi b.wa.lo) rfl
  have x7 := H1.out.2.1.at 7 (v := vi b.wa.hi) rfl
  go_enter Try.func63, Try.ntmps63
  go_wp2_with fail
  refine (HA.out _).mono ?_
  rintro e w2 ⟨rfl, hb⟩
  have H3 := Lib.hid (And.intro ((newer_trans H1.out.1 hb)) (And.intro ((H1.out.2.1.below hb H1.out.2.1.lt)) ((H1.out.2.2.below hb H1.out.2.2.lt))))
  clear hb HA H1 x0 x1 x2 x3 x4 x5 x6 x7
  have f0 := H3.out.2.2.free 0
  have f1 := H3.out.2.2.free 1
  have f2 := H3.out.2.2.free 2
  have r0 := H3.out.2.2.at 0 (v := vi 0) rfl
  have r1 := H3.out.2.2.at 1 (v := vi 0) rfl
  have r2 := H3.out.2.2.at 2 (v := vi 0) rfl
  go_wp2_with fail
  have HZ := Lib.hid (And.intro (((H3.out.1.setCell (p := ⟨w.heap.size + 1, 0, none⟩) (Nat.le_succ _) (vi x.fr)).setCell (p := ⟨w.heap.size + 1, 1, none⟩) (Nat.le_succ _) (vi x.co)).setCell (p := ⟨w.heap.size + 1, 2, none⟩) (Nat.le_succ _) (vi x.wa)) (((H3.out.2.2.set 0 (vi x.fr)).set 1 (vi x.co)).set 2 (vi x.wa)))
  have z0 := HZ.out.2.at 0 (v := vi x.fr) rfl
  have z1 := HZ.out.2.at 1 (v := vi x.co) rfl
  have z2 := HZ.out.2.at 2 (v := vi x.wa) rfl
  exact bodyPost_ret (v := .agg #[vi x.fr, vi x.co, vi x.wa]) (by simp [results, Try.results63, go_sem, z0, z1, z2]) rfl ⟨rfl, HZ.out.1⟩

end Go.Proofs.Ytkenokpobbichaa
