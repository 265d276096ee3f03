/- Is some movement of a set near. -/
import Derived.Test.YtpmafnifgegfbaaH
import Derived.Test.YtpmafnifgegfbaaM
namespace Go.Proofs.Ytpmafnifgegfbaa
open Go.RowKit Go.Shelf Go.Deep

set_option maxRecDepth 100000 in
set_option maxHeartbeats 2000000 in
theorem near_any (y : Sm) (lb mb : Nat) (L : List Mv) (m : Mv) (ka : Option Addr) (n kc : Nat) (al : Value) (w : World) (hs : SdOk y.s) (hl : Whole w lb 126 (lkC y ka n kc al)) (hm : KMap mvV trV mb (kvL L) w)
    (h1 : -30 ≤ m.1 ∧ m.1 ≤ 30) (h2 : -30 ≤ m.2 ∧ m.2 ≤ 30) (hL : ∀ o ∈ L, (-30 ≤ o.1 ∧ o.1 ≤ 30) ∧ -30 ≤ o.2 ∧ o.2 ≤ 30) :
    Calls Try.prog 94 #[.pointer (some ⟨lb, 0, none⟩), .map (some mb), mvV m] w fun e w' => e = .returned (.bool (L.any fun o => nearB y.s.strain o m)) ∧ newer w w' := by
  have hnw := newer_allocH w (.cells (mvC m) 116)
  have hmb := Whole.made w 116 (mvC m)
  have hlb := hl.alloc (.cells (mvC m) 116)
  have HKM := Lib.hid (hm.next hnw)
  have H0 := Lib.hid (And.intro hnw (And.intro hmb hlb))
  have hst := hs.strain
  have HX := Lib.hid (And.intro hs (And.intro h1 (And.intro h2 hL)))
  obtain ⟨R, hR⟩ : ∃ R, R = L.any fun o => nearB y.s.strain o m := ⟨_, rfl⟩
  rw [← hR]
  have HR := Lib.hid hR
  clear hR hs hl hm hL hnw hmb hlb
  go_enter Try.func94, Try.ntmps94
  go_wp2_with (at_range; refine wpList_range_s _ rfl _ 128 rfl Try.underlying128 mb (kvL L) rfl HKM.out ?_; intro w6 hn6 hit6)
  obtain ⟨ib, hib⟩ : ∃ ib, ib = (w.alloc (.cells (mvC m) 116)).heap.size := ⟨_, rfl⟩
  rw [← hib] at hit6 ⊢
  have HIB := Lib.hid (show w.heap.size < ib ∧ lb < ib by have h := H0.out.2.2.lt; rw [← hib] at h; rw [hib, World.size_alloc]; rw [hib, World.size_alloc] at h; omega)
  have HIM := Lib.hid (show mb < ib by rw [hib]; exact HKM.out.lt)
  rw [kv_keys] at hit6
  go_frame
  have HI6 := Lib.hid hit6
  have HN6 := Lib.hid hn6
  clear hn6 hit6 hib
  go_loopw [7] (fun _ wr => ∃ rem : List Mv, KIter mvV trV mb (kvL L) ib rem wr ∧ newer w wr ∧ Whole wr w.heap.size 116 (mvC m) ∧ Whole wr lb 126 (lkC y ka n kc al) ∧ ∀ o ∈ L, o ∉ rem → nearB y.s.strain o m = false) (fun _ wr => itLeft ib wr)
  case atStart => exact ⟨L, HI6.out, newer_trans H0.out.1 HN6.out, H0.out.2.1.below HN6.out H0.out.2.1.lt, H0.out.2.2.below HN6.out H0.out.2.2.lt, fun o ho hn => absurd ho hn⟩
  case round =>
    obtain ⟨rem, hit, hnw, hmb, hlb, hbad⟩ := hrel
    have HIT := Lib.hid hit
    have HF := Lib.hid (And.intro hnw (And.intro hmb (And.intro hlb hbad)))
    clear hit hnw hmb hlb hbad HI6 HN6 H0
    go_wp2_with (at_next; refine wpList_next_s _ rfl _ rfl mb ib (kvL L) rem rfl HIT.out ?_ ?_; (intro hall; have HALL := Lib.hid hall; clear hall); rotate_left 1; (intro p w7 hp hpr hit7 hbel hsz hoth hen; obtain ⟨⟨ox, oy⟩, _⟩ := p; have HP := Lib.hid (And.intro hp hpr); have HIT7 := Lib.hid hit7; have HBEL := Lib.hid hbel; have HSZ := Lib.hid hsz; have HOT := Lib.hid hoth; clear hp hpr hit7 hbel hsz hoth))
    · have hoL : (ox, oy) ∈ L := kv_mem HP.out.1
      have hbo := HX.out.2.2.2 _ hoL
      dsimp only at hbo hen
      have HOL := Lib.hid hoL
      have h7 := HBEL.out ib (Nat.le_refl _)
      have hn7 : newer w w7 := HF.out.1.trans (HBEL.out _ (Nat.le_of_lt HIB.out.1))
      have H1 := Lib.hid (And.intro (hn7) (And.intro (HF.out.2.1.below h7 HIB.out.1) (And.intro (HF.out.2.2.1.below h7 HIB.out.2) (HIT7.out))))
      clear hoL h7 hn7 hen
      refine genQ (fun X => newer w X ∧ Whole X w.heap.size 116 (mvC m) ∧ Whole X lb 126 (lkC y ka n kc al) ∧ KIter mvV trV mb (kvL L) ib (rem.filter fun k => decide (k ≠ (ox, oy))) X ∧ Whole X w7.heap.size 116 #[vi ox, vi oy]) ⟨(newer_trans H1.out.1 (newer_allocH w7 (.cells #[vi ox, vi oy] 116))), (H1.out.2.1.below (newer_allocH w7 (.cells #[vi ox, vi oy] 116)) H1.out.2.1.lt), (H1.out.2.2.1.below (newer_allocH w7 (.cells #[vi ox, vi oy] 116)) H1.out.2.2.1.lt), (H1.out.2.2.2.next (newer_allocH w7 (.cells #[vi ox, vi oy] 116))), Whole.made _ _ _⟩ ?_
      obtain ⟨nb, hnb⟩ : ∃ nb, nb = w7.heap.size := ⟨_, rfl⟩
      rw [← hnb]
      clear hnb
      rintro w2 ⟨g0_, g1_, g2_, g3_, g4_⟩
      have H3 := Lib.hid (And.intro (g0_) (And.intro (g1_) (And.intro (g2_) (And.intro (g3_) (g4_)))))
      clear g0_ g1_ g2_ g3_ g4_ H1
      have hw1 : IntKind.i64.wrap (ox - m.1) = ox - m.1 := IntWalk.i64_in _ (by omega)
      have hw2 : IntKind.i64.wrap (oy - m.2) = oy - m.2 := IntWalk.i64_in _ (by omega)
      have HA1 := Lib.hid (fun W => amount_any (ox - m.1) W (by omega))
      have HA2 := Lib.hid (fun W => amount_any (oy - m.2) W (by omega))
      obtain ⟨ax, hax⟩ : ∃ a, a = amt (ox - m.1) := ⟨_, rfl⟩
      obtain ⟨ay, hay⟩ : ∃ a, a = amt (oy - m.2) := ⟨_, rfl⟩
      rw [← hax] at HA1
      rw [← hay] at HA2
      have HNE : Hid (nearB y.s.strain (ox, oy) m = (decide (ax ≤ y.s.strain) && decide (ay ≤ y.s.strain))) := Lib.hid (by rw [hax, hay]; rfl)
      clear hax hay
      have n0 := H3.out.2.2.2.2.at 0 (v := vi ox) rfl
      have n1 := H3.out.2.2.2.2.at 1 (v := vi oy) rfl
      have m0 := H3.out.2.1.at 0 (v := vi m.1) rfl
      have m1 := H3.out.2.1.at 1 (v := vi m.2) rfl
      have l0 := H3.out.2.2.1.at 0 (v := .slice y.sa y.s.spots.length y.sc) rfl
      have l1 := H3.out.2.2.1.at 1 (v := vi y.s.strain) rfl
      by_cases hq1 : ax ≤ y.s.strain
      · by_cases hq2 : ay ≤ y.s.strain
        · refine wp_words (by kernel_rfl) (region_told_u 25 (by kernel_rfl) (by kernel_rfl) [false, false, false, false, false, false, false, false, false, false, false, false, false, false, false, false, false, false, false, false, false, false, false, false, false] (fun W => Below w2.heap.size w2 W) newer [vIs (.pointer (some ⟨nb, 0, none⟩)), vIs (vi ox), vIs (.pointer (some ⟨w.heap.size, 0, none⟩)), vIs (vi m.1), vIs (vi (ox - m.1)), vIs (vi ax), vIs (.pointer (some ⟨lb, 0, none⟩)), vIs (.pointer (some ⟨lb, 0, none⟩)), vIs (.pointer (some ⟨lb, 0, none⟩)), vIs (.pointer (some ⟨lb, 1, none⟩)), vIs (vi y.s.strain), vIs (.bool true), vIs (.bool true), vIs (.pointer (some ⟨nb, 1, none⟩)), vIs (vi oy), vIs (.pointer (some ⟨w.heap.size, 1, none⟩)), vIs (vi m.2), vIs (vi (oy - m.2)), vIs (vi ay), vIs (.pointer (some ⟨lb, 0, none⟩)), vIs (.pointer (some ⟨lb, 0, none⟩)), vIs (.pointer (some ⟨lb, 0, none⟩)), vIs (.pointer (some ⟨lb, 1, none⟩)), vIs (vi y.s.strain), vIs (.bool true)] ⟨rfl, rfl, rfl, rfl, rfl, rfl, rfl, rfl, rfl, rfl, rfl, rfl, rfl, (fun v W h => by obtain rfl : v = _ := h; rfl), (fun v W h => by obtain rfl : v = _ := h; rfl), (fun v W h => by obtain rfl : v = _ := h; rfl), (fun v W h => by obtain rfl : v = _ := h; rfl), (fun v W h => by obtain rfl : v = _ := h; rfl), (fun v W h => by obtain rfl : v = _ := h; rfl), (fun v W h => by obtain rfl : v = _ := h; rfl), (fun v W h => by obtain rfl : v = _ := h; rfl), (fun v W h => by obtain rfl : v = _ := h; rfl), (fun v W h => by obtain rfl : v = _ := h; rfl), (fun v W h => by obtain rfl : v = _ := h; rfl), (fun v W h => by obtain rfl : v = _ := h; rfl), trivial⟩ ⟨(fun h => Bool.noConfusion (show false = true from h)), (fun h => Bool.noConfusion (show false = true from h)), (fun h => Bool.noConfusion (show false = true from h)), (fun h => Bool.noConfusion (show false = true from h)), (fun h => Bool.noConfusion (show false = true from h)), (fun h => Bool.noConfusion (show false = true from h)), (fun h => Bool.noConfusion (show false = true from h)), (fun h => Bool.noConfusion (show false = true from h)), (fun h => Bool.noConfusion (show false = true from h)), (fun h => Bool.noConfusion (show false = true from h)), (fun h => Bool.noConfusion (show false = true from h)), (fun h => Bool.noConfusion (show false = true from h)), (fun h => Bool.noConfusion (show false = true from h)), (fun h => Bool.noConfusion (show false = true from h)), (fun h => Bool.noConfusion (show false = true from h)), (fun h => Bool.noConfusion (show false = true from h)), (fun h => Bool.noConfusion (show false = true from h)), (fun h => Bool.noConfusion (show false = true from h)), (fun h => Bool.noConfusion (show false = true from h)), (fun h => Bool.noConfusion (show false = true from h)), (fun h => Bool.noConfusion (show false = true from h)), (fun h => Bool.noConfusion (show false = true from h)), (fun h => Bool.noConfusion (show false = true from h)), (fun h => Bool.noConfusion (show false = true from h)), (fun h => Bool.noConfusion (show false = true from h)), trivial⟩ (fun h k => newer_trans h k) (pickD_stable _ ⟨vIs_st, vIs_st, vIs_st, vIs_st, vIs_st, vIs_st, vIs_st, vIs_st, vIs_st, vIs_st, vIs_st, vIs_st, vIs_st, vIs_st, vIs_st, vIs_st, vIs_st, vIs_st, vIs_st, vIs_st, vIs_st, vIs_st, vIs_st, vIs_st, vIs_st, trivial⟩) (Below.refl _ w2).drew (Below.refl _ _) ?_ ?_)
          · refine ⟨.inr ?_, .inr ?_, .inr ?_, .inr ?_, .inr ?_, .inr ?_, .inr ?_, .inr ?_, .inr ?_, .inr ?_, .inr ?_, .inr ?_, .inr ?_, .inr ?_, .inr ?_, .inr ?_, .inr ?_, .inr ?_, .inr ?_, .inr ?_, .inr ?_, .inr ?_, .inr ?_, .inr ?_, .inr ?_, trivial⟩
            · intro a W hG hR hO hp
              have h7 := hO.slot 7 (by kernel_rfl)
              refine kY (v := .pointer (some ⟨nb, 0, none⟩)) hG rfl ?_
              simp [slotOf] at h7
              simp [execOp, go_sem, h7]
            · intro a W hG hR hO hp
              have h14 : slotOf a 14 = .pointer (some ⟨nb, 0, none⟩) := hp.1
              have c0 := keep_cell n0 hG
              refine kY (v := vi ox) hG rfl ?_
              simp [slotOf] at h14
              simp [execOp, go_sem, h14, c0]
            · intro a W hG hR hO hp
              have h5 := hO.slot 5 (by kernel_rfl)
              refine kY (v := .pointer (some ⟨w.heap.size, 0, none⟩)) hG rfl ?_
              simp [slotOf] at h5
              simp [execOp, go_sem, h5]
            · intro a W hG hR hO hp
              have h16 : slotOf a 16 = .pointer (some ⟨w.heap.size, 0, none⟩) := hp.1
              have c0 := keep_cell m0 hG
              refine kY (v := vi m.1) hG rfl ?_
              simp [slotOf] at h16
              simp [execOp, go_sem, h16, c0]
            · intro a W hG hR hO hp
              have h15 : slotOf a 15 = vi ox := hp.1
              have h17 : slotOf a 17 = vi m.1 := hp.2.1
              refine kY (v := vi (ox - m.1)) hG rfl ?_
              simp [slotOf] at h15 h17
              simp [execOp, go_sem, h15, h17, hw1]
            · intro a W hG hR hO hp
              have h18 : slotOf a 18 = vi (ox - m.1) := hp.1
              refine wp_enters (f := 75) (args := #[vi (ox - m.1)]) ?_ ((HA1.out W).mono ?_)
              · simp [slotOf] at h18
                simp [go_sem, h18]
              · rintro e w' ⟨rfl, rfl⟩
                exact ⟨_, rfl, _, rfl, rfl, Below.refl _ _, hG⟩
            · exact fun a W hG _ hO _ => kM 0 rfl (hO.slot 0 (by kernel_rfl)) rfl hG
            · intro a W hG hR hO hp
              have h20 : slotOf a 20 = .pointer (some ⟨lb, 0, none⟩) := hp.1
              refine kY (v := .pointer (some ⟨lb, 0, none⟩)) hG rfl ?_
              simp [slotOf] at h20
              simp [execOp, go_sem, h20]
            · intro a W hG hR hO hp
              have h21 : slotOf a 21 = .pointer (some ⟨lb, 0, none⟩) := hp.1
              refine kY (v := .pointer (some ⟨lb, 0, none⟩)) hG rfl ?_
              simp [slotOf] at h21
              simp [execOp, go_sem, h21]
            · intro a W hG hR hO hp
              have h22 : slotOf a 22 = .pointer (some ⟨lb, 0, none⟩) := hp.1
              refine kY (v := .pointer (some ⟨lb, 1, none⟩)) hG rfl ?_
              simp [slotOf] at h22
              simp [execOp, go_sem, h22]
            · intro a W hG hR hO hp
              have h23 : slotOf a 23 = .pointer (some ⟨lb, 1, none⟩) := hp.1
              have c0 := keep_cell l1 hG
              refine kY (v := vi y.s.strain) hG rfl ?_
              simp [slotOf] at h23
              simp [execOp, go_sem, h23, c0]
            · intro a W hG hR hO hp
              have h19 : slotOf a 19 = vi ax := hp.1
              have h24 : slotOf a 24 = vi y.s.strain := hp.2.1
              refine kY (v := .bool true) hG rfl ?_
              simp [slotOf] at h19 h24
              simp [execOp, go_sem, h19, h24, hq1]
            · exact fun a W hG _ _ hp => kM 25 rfl hp.1 rfl hG
            · intro a W hG hR hO hp
              have h7 := hO.slot 7 (by kernel_rfl)
              refine kY (v := .pointer (some ⟨nb, 1, none⟩)) hG rfl ?_
              simp [slotOf] at h7
              simp [execOp, go_sem, h7]
            · intro a W hG hR hO hp
              have h27 : slotOf a 27 = .pointer (some ⟨nb, 1, none⟩) := hp.1
              have c0 := keep_cell n1 hG
              refine kY (v := vi oy) hG rfl ?_
              simp [slotOf] at h27
              simp [execOp, go_sem, h27, c0]
            · intro a W hG hR hO hp
              have h5 := hO.slot 5 (by kernel_rfl)
              refine kY (v := .pointer (some ⟨w.heap.size, 1, none⟩)) hG rfl ?_
              simp [slotOf] at h5
              simp [execOp, go_sem, h5]
            · intro a W hG hR hO hp
              have h29 : slotOf a 29 = .pointer (some ⟨w.heap.size, 1, none⟩) := hp.1
              have c0 := keep_cell m1 hG
              refine kY (v := vi m.2) hG rfl ?_
              simp [slotOf] at h29
              simp [execOp, go_sem, h29, c0]
            · intro a W hG hR hO hp
              have h28 : slotOf a 28 = vi oy := hp.1
              have h30 : slotOf a 30 = vi m.2 := hp.2.1
              refine kY (v := vi (oy - m.2)) hG rfl ?_
              simp [slotOf] at h28 h30
              simp [execOp, go_sem, h28, h30, hw2]
            · intro a W hG hR hO hp
              have h31 : slotOf a 31 = vi (oy - m.2) := hp.1
              refine wp_enters (f := 75) (args := #[vi (oy - m.2)]) ?_ ((HA2.out W).mono ?_)
              · simp [slotOf] at h31
                simp [go_sem, h31]
              · rintro e w' ⟨rfl, rfl⟩
                exact ⟨_, rfl, _, rfl, rfl, Below.refl _ _, hG⟩
            · exact fun a W hG _ hO _ => kM 0 rfl (hO.slot 0 (by kernel_rfl)) rfl hG
            · intro a W hG hR hO hp
              have h33 : slotOf a 33 = .pointer (some ⟨lb, 0, none⟩) := hp.1
              refine kY (v := .pointer (some ⟨lb, 0, none⟩)) hG rfl ?_
              simp [slotOf] at h33
              simp [execOp, go_sem, h33]
            · intro a W hG hR hO hp
              have h34 : slotOf a 34 = .pointer (some ⟨lb, 0, none⟩) := hp.1
              refine kY (v := .pointer (some ⟨lb, 0, none⟩)) hG rfl ?_
              simp [slotOf] at h34
              simp [execOp, go_sem, h34]
            · intro a W hG hR hO hp
              have h35 : slotOf a 35 = .pointer (some ⟨lb, 0, none⟩) := hp.1
              refine kY (v := .pointer (some ⟨lb, 1, none⟩)) hG rfl ?_
              simp [slotOf] at h35
              simp [execOp, go_sem, h35]
            · intro a W hG hR hO hp
              have h36 : slotOf a 36 = .pointer (some ⟨lb, 1, none⟩) := hp.1
              have c0 := keep_cell l1 hG
              refine kY (v := vi y.s.strain) hG rfl ?_
              simp [slotOf] at h36
              simp [execOp, go_sem, h36, c0]
            · intro a W hG hR hO hp
              have h32 : slotOf a 32 = vi ay := hp.1
              have h37 : slotOf a 37 = vi y.s.strain := hp.2.1
              refine kY (v := .bool true) hG rfl ?_
              simp [slotOf] at h32 h37
              simp [execOp, go_sem, h32, h37, hq2]
          · intro wz hG hR
            rintro _ rfl _ rfl _ rfl _ rfl _ rfl _ rfl _ rfl _ rfl _ rfl _ rfl _ rfl _ rfl _ rfl _ rfl _ rfl _ rfl _ rfl _ rfl _ rfl _ rfl _ rfl _ rfl _ rfl _ rfl _ rfl
            change wpList _ _ _ _ _ _
            simp only [Act.put, List.setIfInBounds_toArray, List.set_cons_zero, List.set_cons_succ, List.drop_succ_cons, List.drop_zero]
            clear hR
            have H4 := Lib.hid (And.intro ((newer_trans H3.out.1 hG)) (And.intro ((H3.out.2.1.below hG H3.out.2.1.lt)) (And.intro ((H3.out.2.2.1.below hG H3.out.2.2.1.lt)) (And.intro ((H3.out.2.2.2.1.next hG)) ((H3.out.2.2.2.2.below hG H3.out.2.2.2.2.lt))))))
            clear hG H3 n0 n1 m0 m1 l0 l1
            go_wp2_with fail
            go_ret
            exact ⟨ret_bool (by rw [HR.out]; exact ((List.any_eq_true (p := fun o => nearB y.s.strain o m)).2 ⟨(ox, oy), HOL.out, by rw [HNE.out]; simp [hq1, hq2]⟩).symm), H4.out.1⟩
        · refine wp_words (by kernel_rfl) (region_told_u 25 (by kernel_rfl) (by kernel_rfl) [false, false, false, false, false, false, false, false, false, false, false, false, false, false, false, false, false, false, false, false, false, false, false, false, false] (fun W => Below w2.heap.size w2 W) newer [vIs (.pointer (some ⟨nb, 0, none⟩)), vIs (vi ox), vIs (.pointer (some ⟨w.heap.size, 0, none⟩)), vIs (vi m.1), vIs (vi (ox - m.1)), vIs (vi ax), vIs (.pointer (some ⟨lb, 0, none⟩)), vIs (.pointer (some ⟨lb, 0, none⟩)), vIs (.pointer (some ⟨lb, 0, none⟩)), vIs (.pointer (some ⟨lb, 1, none⟩)), vIs (vi y.s.strain), vIs (.bool true), vIs (.bool true), vIs (.pointer (some ⟨nb, 1, none⟩)), vIs (vi oy), vIs (.pointer (some ⟨w.heap.size, 1, none⟩)), vIs (vi m.2), vIs (vi (oy - m.2)), vIs (vi ay), vIs (.pointer (some ⟨lb, 0, none⟩)), vIs (.pointer (some ⟨lb, 0, none⟩)), vIs (.pointer (some ⟨lb, 0, none⟩)), vIs (.pointer (some ⟨lb, 1, none⟩)), vIs (vi y.s.strain), vIs (.bool false)] ⟨rfl, rfl, rfl, rfl, rfl, rfl, rfl, rfl, rfl, rfl, rfl, rfl, rfl, (fun v W h => by obtain rfl : v = _ := h; rfl), (fun v W h => by obtain rfl : v = _ := h; rfl), (fun v W h => by obtain rfl : v = _ := h; rfl), (fun v W h => by obtain rfl : v = _ := h; rfl), (fun v W h => by obtain rfl : v = _ := h; rfl), (fun v W h => by obtain rfl : v = _ := h; rfl), (fun v W h => by obtain rfl : v = _ := h; rfl), (fun v W h => by obtain rfl : v = _ := h; rfl), (fun v W h => by obtain rfl : v = _ := h; rfl), (fun v W h => by obtain rfl : v = _ := h; rfl), (fun v W h => by obtain rfl : v = _ := h; rfl), (fun v W h => by obtain rfl : v = _ := h; rfl), trivial⟩ ⟨(fun h => Bool.noConfusion (show false = true from h)), (fun h => Bool.noConfusion (show false = true from h)), (fun h => Bool.noConfusion (show false = true from h)), (fun h => Bool.noConfusion (show false = true from h)), (fun h => Bool.noConfusion (show false = true from h)), (fun h => Bool.noConfusion (show false = true from h)), (fun h => Bool.noConfusion (show false = true from h)), (fun h => Bool.noConfusion (show false = true from h)), (fun h => Bool.noConfusion (show false = true from h)), (fun h => Bool.noConfusion (show false = true from h)), (fun h => Bool.noConfusion (show false = true from h)), (fun h => Bool.noConfusion (show false = true from h)), (fun h => Bool.noConfusion (show false = true from h)), (fun h => Bool.noConfusion (show false = true from h)), (fun h => Bool.noConfusion (show false = true from h)), (fun h => Bool.noConfusion (show false = true from h)), (fun h => Bool.noConfusion (show false = true from h)), (fun h => Bool.noConfusion (show false = true from h)), (fun h => Bool.noConfusion (show false = true from h)), (fun h => Bool.noConfusion (show false = true from h)), (fun h => Bool.noConfusion (show false = true from h)), (fun h => Bool.noConfusion (show false = true from h)), (fun h => Bool.noConfusion (show false = true from h)), (fun h => Bool.noConfusion (show false = true from h)), (fun h => Bool.noConfusion (show false = true from h)), trivial⟩ (fun h k => newer_trans h k) (pickD_stable _ ⟨vIs_st, vIs_st, vIs_st, vIs_st, vIs_st, vIs_st, vIs_st, vIs_st, vIs_st, vIs_st, vIs_st, vIs_st, vIs_st, vIs_st, vIs_st, vIs_st, vIs_st, vIs_st, vIs_st, vIs_st, vIs_st, vIs_st, vIs_st, vIs_st, vIs_st, trivial⟩) (Below.refl _ w2).drew (Below.refl _ _) ?_ ?_)
          · refine ⟨.inr ?_, .inr ?_, .inr ?_, .inr ?_, .inr ?_, .inr ?_, .inr ?_, .inr ?_, .inr ?_, .inr ?_, .inr ?_, .inr ?_, .inr ?_, .inr ?_, .inr ?_, .inr ?_, .inr ?_, .inr ?_, .inr ?_, .inr ?_, .inr ?_, .inr ?_, .inr ?_, .inr ?_, .inr ?_, trivial⟩
            · intro a W hG hR hO hp
              have h7 := hO.slot 7 (by kernel_rfl)
              refine kY (v := .pointer (some ⟨nb, 0, none⟩)) hG rfl ?_
              simp [slotOf] at h7
              simp [execOp, go_sem, h7]
            · intro a W hG hR hO hp
              have h14 : slotOf a 14 = .pointer (some ⟨nb, 0, none⟩) := hp.1
              have c0 := keep_cell n0 hG
              refine kY (v := vi ox) hG rfl ?_
              simp [slotOf] at h14
              simp [execOp, go_sem, h14, c0]
            · intro a W hG hR hO hp
              have h5 := hO.slot 5 (by kernel_rfl)
              refine kY (v := .pointer (some ⟨w.heap.size, 0, none⟩)) hG rfl ?_
              simp [slotOf] at h5
              simp [execOp, go_sem, h5]
            · intro a W hG hR hO hp
              have h16 : slotOf a 16 = .pointer (some ⟨w.heap.size, 0, none⟩) := hp.1
              have c0 := keep_cell m0 hG
              refine kY (v := vi m.1) hG rfl ?_
              simp [slotOf] at h16
              simp [execOp, go_sem, h16, c0]
            · intro a W hG hR hO hp
              have h15 : slotOf a 15 = vi ox := hp.1
              have h17 : slotOf a 17 = vi m.1 := hp.2.1
              refine kY (v := vi (ox - m.1)) hG rfl ?_
              simp [slotOf] at h15 h17
              simp [execOp, go_sem, h15, h17, hw1]
            · intro a W hG hR hO hp
              have h18 : slotOf a 18 = vi (ox - m.1) := hp.1
              refine wp_enters (f := 75) (args := #[vi (ox - m.1)]) ?_ ((HA1.out W).mono ?_)
              · simp [slotOf] at h18
                simp [go_sem, h18]
              · rintro e w' ⟨rfl, rfl⟩
                exact ⟨_, rfl, _, rfl, rfl, Below.refl _ _, hG⟩
            · exact fun a W hG _ hO _ => kM 0 rfl (hO.slot 0 (by kernel_rfl)) rfl hG
            · intro a W hG hR hO hp
              have h20 : slotOf a 20 = .pointer (some ⟨lb, 0, none⟩) := hp.1
              refine kY (v := .pointer (some ⟨lb, 0, none⟩)) hG rfl ?_
              simp [slotOf] at h20
              simp [execOp, go_sem, h20]
            · intro a W hG hR hO hp
              have h21 : slotOf a 21 = .pointer (some ⟨lb, 0, none⟩) := hp.1
              refine kY (v := .pointer (some ⟨lb, 0, none⟩)) hG rfl ?_
              simp [slotOf] at h21
              simp [execOp, go_sem, h21]
            · intro a W hG hR hO hp
              have h22 : slotOf a 22 = .pointer (some ⟨lb, 0, none⟩) := hp.1
              refine kY (v := .pointer (some ⟨lb, 1, none⟩)) hG rfl ?_
              simp [slotOf] at h22
              simp [execOp, go_sem, h22]
            · intro a W hG hR hO hp
              have h23 : slotOf a 23 = .pointer (some ⟨lb, 1, none⟩) := hp.1
              have c0 := keep_cell l1 hG
              refine kY (v := vi y.s.strain) hG rfl ?_
              simp [slotOf] at h23
              simp [execOp, go_sem, h23, c0]
            · intro a W hG hR hO hp
              have h19 : slotOf a 19 = vi ax := hp.1
              have h24 : slotOf a 24 = vi y.s.strain := hp.2.1
              refine kY (v := .bool true) hG rfl ?_
              simp [slotOf] at h19 h24
              simp [execOp, go_sem, h19, h24, hq1]
            · exact fun a W hG _ _ hp => kM 25 rfl hp.1 rfl hG
            · intro a W hG hR hO hp
              have h7 := hO.slot 7 (by kernel_rfl)
              refine kY (v := .pointer (some ⟨nb, 1, none⟩)) hG rfl ?_
              simp [slotOf] at h7
              simp [execOp, go_sem, h7]
            · intro a W hG hR hO hp
              have h27 : slotOf a 27 = .pointer (some ⟨nb, 1, none⟩) := hp.1
              have c0 := keep_cell n1 hG
              refine kY (v := vi oy) hG rfl ?_
              simp [slotOf] at h27
              simp [execOp, go_sem, h27, c0]
            · intro a W hG hR hO hp
              have h5 := hO.slot 5 (by kernel_rfl)
              refine kY (v := .pointer (some ⟨w.heap.size, 1, none⟩)) hG rfl ?_
              simp [slotOf] at h5
              simp [execOp, go_sem, h5]
            · intro a W hG hR hO hp
              have h29 : slotOf a 29 = .pointer (some ⟨w.heap.size, 1, none⟩) := hp.1
              have c0 := keep_cell m1 hG
              refine kY (v := vi m.2) hG rfl ?_
              simp [slotOf] at h29
              simp [execOp, go_sem, h29, c0]
            · intro a W hG hR hO hp
              have h28 : slotOf a 28 = vi oy := hp.1
              have h30 : slotOf a 30 = vi m.2 := hp.2.1
              refine kY (v := vi (oy - m.2)) hG rfl ?_
              simp [slotOf] at h28 h30
              simp [execOp, go_sem, h28, h30, hw2]
            · intro a W hG hR hO hp
              have h31 : slotOf a 31 = vi (oy - m.2) := hp.1
              refine wp_enters (f := 75) (args := #[vi (oy - m.2)]) ?_ ((HA2.out W).mono ?_)
              · simp [slotOf] at h31
                simp [go_sem, h31]
              · rintro e w' ⟨rfl, rfl⟩
                exact ⟨_, rfl, _, rfl, rfl, Below.refl _ _, hG⟩
            · exact fun a W hG _ hO _ => kM 0 rfl (hO.slot 0 (by kernel_rfl)) rfl hG
            · intro a W hG hR hO hp
              have h33 : slotOf a 33 = .pointer (some ⟨lb, 0, none⟩) := hp.1
              refine kY (v := .pointer (some ⟨lb, 0, none⟩)) hG rfl ?_
              simp [slotOf] at h33
              simp [execOp, go_sem, h33]
            · intro a W hG hR hO hp
              have h34 : slotOf a 34 = .pointer (some ⟨lb, 0, none⟩) := hp.1
              refine kY (v := .pointer (some ⟨lb, 0, none⟩)) hG rfl ?_
              simp [slotOf] at h34
              simp [execOp, go_sem, h34]
            · intro a W hG hR hO hp
              have h35 : slotOf a 35 = .pointer (some ⟨lb, 0, none⟩) := hp.1
              refine kY (v := .pointer (some ⟨lb, 1, none⟩)) hG rfl ?_
              simp [slotOf] at h35
              simp [execOp, go_sem, h35]
            · intro a W hG hR hO hp
              have h36 : slotOf a 36 = .pointer (some ⟨lb, 1, none⟩) := hp.1
              have c0 := keep_cell l1 hG
              refine kY (v := vi y.s.strain) hG rfl ?_
              simp [slotOf] at h36
              simp [execOp, go_sem, h36, c0]
            · intro a W hG hR hO hp
              have h32 : slotOf a 32 = vi ay := hp.1
              have h37 : slotOf a 37 = vi y.s.strain := hp.2.1
              refine kY (v := .bool false) hG rfl ?_
              simp [slotOf] at h32 h37
              simp [execOp, go_sem, h32, h37, hq2]
          · intro wz hG hR
            rintro _ rfl _ rfl _ rfl _ rfl _ rfl _ rfl _ rfl _ rfl _ rfl _ rfl _ rfl _ rfl _ rfl _ rfl _ rfl _ rfl _ rfl _ rfl _ rfl _ rfl _ rfl _ rfl _ rfl _ rfl _ rfl
            change wpList _ _ _ _ _ _
            simp only [Act.put, List.setIfInBounds_toArray, List.set_cons_zero, List.set_cons_succ, List.drop_succ_cons, List.drop_zero]
            clear hR
            have H5 := Lib.hid (And.intro ((newer_trans H3.out.1 hG)) (And.intro ((H3.out.2.1.below hG H3.out.2.1.lt)) (And.intro ((H3.out.2.2.1.below hG H3.out.2.2.1.lt)) (And.intro ((H3.out.2.2.2.1.next hG)) ((H3.out.2.2.2.2.below hG H3.out.2.2.2.2.lt))))))
            clear hG H3 n0 n1 m0 m1 l0 l1
            go_wp2_with fail
            refine ⟨⟨rem.filter fun k => decide (k ≠ (ox, oy)), H5.out.2.2.2.1, H5.out.1, H5.out.2.1, H5.out.2.2.1, fun o ho hn => ?_⟩, ?_⟩
            · by_cases e : o = (ox, oy)
              · rw [e, HNE.out]
                simp [hq2]
              · exact HF.out.2.2.2 o ho fun h => hn (List.mem_filter.2 ⟨h, by simpa using e⟩)
            · rw [H5.out.2.2.2.1.left, HIT.out.left]
              exact filter_less HP.out.2
      · refine wp_words (by kernel_rfl) (region_told_u 25 (by kernel_rfl) (by kernel_rfl) [false, false, false, false, false, false, false, false, false, false, false, false, false, true, true, true, true, true, true, true, true, true, true, true, true] (fun W => Below w2.heap.size w2 W) newer [vIs (.pointer (some ⟨nb, 0, none⟩)), vIs (vi ox), vIs (.pointer (some ⟨w.heap.size, 0, none⟩)), vIs (vi m.1), vIs (vi (ox - m.1)), vIs (vi ax), vIs (.pointer (some ⟨lb, 0, none⟩)), vIs (.pointer (some ⟨lb, 0, none⟩)), vIs (.pointer (some ⟨lb, 0, none⟩)), vIs (.pointer (some ⟨lb, 1, none⟩)), vIs (vi y.s.strain), vIs (.bool false), vIs (.bool false), vIs (undef), vIs (undef), vIs (undef), vIs (undef), vIs (undef), vIs (undef), vIs (undef), vIs (undef), vIs (undef), vIs (undef), vIs (undef), vIs (undef)] ⟨rfl, rfl, rfl, rfl, rfl, rfl, rfl, rfl, rfl, rfl, rfl, rfl, rfl, (fun v W h => by obtain rfl : v = _ := h; simp), (fun v W h => by obtain rfl : v = _ := h; simp), (fun v W h => by obtain rfl : v = _ := h; simp), (fun v W h => by obtain rfl : v = _ := h; simp), (fun v W h => by obtain rfl : v = _ := h; simp), (fun v W h => by obtain rfl : v = _ := h; simp), (fun v W h => by obtain rfl : v = _ := h; simp), (fun v W h => by obtain rfl : v = _ := h; simp), (fun v W h => by obtain rfl : v = _ := h; simp), (fun v W h => by obtain rfl : v = _ := h; simp), (fun v W h => by obtain rfl : v = _ := h; simp), (fun v W h => by obtain rfl : v = _ := h; simp), trivial⟩ ⟨(fun h => Bool.noConfusion (show false = true from h)), (fun h => Bool.noConfusion (show false = true from h)), (fun h => Bool.noConfusion (show false = true from h)), (fun h => Bool.noConfusion (show false = true from h)), (fun h => Bool.noConfusion (show false = true from h)), (fun h => Bool.noConfusion (show false = true from h)), (fun h => Bool.noConfusion (show false = true from h)), (fun h => Bool.noConfusion (show false = true from h)), (fun h => Bool.noConfusion (show false = true from h)), (fun h => Bool.noConfusion (show false = true from h)), (fun h => Bool.noConfusion (show false = true from h)), (fun h => Bool.noConfusion (show false = true from h)), (fun h => Bool.noConfusion (show false = true from h)), (fun _ _ => rfl), (fun _ _ => rfl), (fun _ _ => rfl), (fun _ _ => rfl), (fun _ _ => rfl), (fun _ _ => rfl), (fun _ _ => rfl), (fun _ _ => rfl), (fun _ _ => rfl), (fun _ _ => rfl), (fun _ _ => rfl), (fun _ _ => rfl), trivial⟩ (fun h k => newer_trans h k) (pickD_stable _ ⟨vIs_st, vIs_st, vIs_st, vIs_st, vIs_st, vIs_st, vIs_st, vIs_st, vIs_st, vIs_st, vIs_st, vIs_st, vIs_st, vIs_st, vIs_st, vIs_st, vIs_st, vIs_st, vIs_st, vIs_st, vIs_st, vIs_st, vIs_st, vIs_st, vIs_st, trivial⟩) (Below.refl _ w2).drew (Below.refl _ _) ?_ ?_)
        · refine ⟨.inr ?_, .inr ?_, .inr ?_, .inr ?_, .inr ?_, .inr ?_, .inr ?_, .inr ?_, .inr ?_, .inr ?_, .inr ?_, .inr ?_, .inr ?_, .inl rfl, .inl rfl, .inl rfl, .inl rfl, .inl rfl, .inl rfl, .inl rfl, .inl rfl, .inl rfl, .inl rfl, .inl rfl, .inl rfl, trivial⟩
          · intro a W hG hR hO hp
            have h7 := hO.slot 7 (by kernel_rfl)
            refine kY (v := .pointer (some ⟨nb, 0, none⟩)) hG rfl ?_
            simp [slotOf] at h7
            simp [execOp, go_sem, h7]
          · intro a W hG hR hO hp
            have h14 : slotOf a 14 = .pointer (some ⟨nb, 0, none⟩) := hp.1
            have c0 := keep_cell n0 hG
            refine kY (v := vi ox) hG rfl ?_
            simp [slotOf] at h14
            simp [execOp, go_sem, h14, c0]
          · intro a W hG hR hO hp
            have h5 := hO.slot 5 (by kernel_rfl)
            refine kY (v := .pointer (some ⟨w.heap.size, 0, none⟩)) hG rfl ?_
            simp [slotOf] at h5
            simp [execOp, go_sem, h5]
          · intro a W hG hR hO hp
            have h16 : slotOf a 16 = .pointer (some ⟨w.heap.size, 0, none⟩) := hp.1
            have c0 := keep_cell m0 hG
            refine kY (v := vi m.1) hG rfl ?_
            simp [slotOf] at h16
            simp [execOp, go_sem, h16, c0]
          · intro a W hG hR hO hp
            have h15 : slotOf a 15 = vi ox := hp.1
            have h17 : slotOf a 17 = vi m.1 := hp.2.1
            refine kY (v := vi (ox - m.1)) hG rfl ?_
            simp [slotOf] at h15 h17
            simp [execOp, go_sem, h15, h17, hw1]
          · intro a W hG hR hO hp
            have h18 : slotOf a 18 = vi (ox - m.1) := hp.1
            refine wp_enters (f := 75) (args := #[vi (ox - m.1)]) ?_ ((HA1.out W).mono ?_)
            · simp [slotOf] at h18
              simp [go_sem, h18]
            · rintro e w' ⟨rfl, rfl⟩
              exact ⟨_, rfl, _, rfl, rfl, Below.refl _ _, hG⟩
          · exact fun a W hG _ hO _ => kM 0 rfl (hO.slot 0 (by kernel_rfl)) rfl hG
          · intro a W hG hR hO hp
            have h20 : slotOf a 20 = .pointer (some ⟨lb, 0, none⟩) := hp.1
            refine kY (v := .pointer (some ⟨lb, 0, none⟩)) hG rfl ?_
            simp [slotOf] at h20
            simp [execOp, go_sem, h20]
          · intro a W hG hR hO hp
            have h21 : slotOf a 21 = .pointer (some ⟨lb, 0, none⟩) := hp.1
            refine kY (v := .pointer (some ⟨lb, 0, none⟩)) hG rfl ?_
            simp [slotOf] at h21
            simp [execOp, go_sem, h21]
          · intro a W hG hR hO hp
            have h22 : slotOf a 22 = .pointer (some ⟨lb, 0, none⟩) := hp.1
            refine kY (v := .pointer (some ⟨lb, 1, none⟩)) hG rfl ?_
            simp [slotOf] at h22
            simp [execOp, go_sem, h22]
          · intro a W hG hR hO hp
            have h23 : slotOf a 23 = .pointer (some ⟨lb, 1, none⟩) := hp.1
            have c0 := keep_cell l1 hG
            refine kY (v := vi y.s.strain) hG rfl ?_
            simp [slotOf] at h23
            simp [execOp, go_sem, h23, c0]
          · intro a W hG hR hO hp
            have h19 : slotOf a 19 = vi ax := hp.1
            have h24 : slotOf a 24 = vi y.s.strain := hp.2.1
            refine kY (v := .bool false) hG rfl ?_
            simp [slotOf] at h19 h24
            simp [execOp, go_sem, h19, h24, hq1]
          · exact fun a W hG _ _ hp => kM 25 rfl hp.1 rfl hG
        · intro wz hG hR
          rintro _ rfl _ rfl _ rfl _ rfl _ rfl _ rfl _ rfl _ rfl _ rfl _ rfl _ rfl _ rfl _ rfl _ rfl _ rfl _ rfl _ rfl _ rfl _ rfl _ rfl _ rfl _ rfl _ rfl _ rfl _ rfl
          change wpList _ _ _ _ _ _
          simp only [Act.put, List.setIfInBounds_toArray, List.set_cons_zero, List.set_cons_succ, List.drop_succ_cons, List.drop_zero]
          clear hR
          have H6 := Lib.hid (And.intro ((newer_trans H3.out.1 hG)) (And.intro ((H3.out.2.1.below hG H3.out.2.1.lt)) (And.intro ((H3.out.2.2.1.below hG H3.out.2.2.1.lt)) (And.intro ((H3.out.2.2.2.1.next hG)) ((H3.out.2.2.2.2.below hG H3.out.2.2.2.2.lt))))))
          clear hG H3 n0 n1 m0 m1 l0 l1
          go_wp2_with fail
          refine ⟨⟨rem.filter fun k => decide (k ≠ (ox, oy)), H6.out.2.2.2.1, H6.out.1, H6.out.2.1, H6.out.2.2.1, fun o ho hn => ?_⟩, ?_⟩
          · by_cases e : o = (ox, oy)
            · rw [e, HNE.out]
              simp [hq1]
            · exact HF.out.2.2.2 o ho fun h => hn (List.mem_filter.2 ⟨h, by simpa using e⟩)
          · rw [H6.out.2.2.2.1.left, HIT.out.left]
            exact filter_less HP.out.2
    · go_ret
      refine ⟨ret_bool ?_, HF.out.1⟩
      rw [HR.out]
      refine (Bool.eq_false_iff.2 fun h => ?_).symm
      obtain ⟨o, ho, h2⟩ := List.any_eq_true.1 h
      rw [HF.out.2.2.2 o ho (by rw [HALL.out]; exact List.not_mem_nil)] at h2
      cases h2

end Go.Proofs.Ytpmafnifgegfbaa
