/- A spot that is seen, and a post that calls. -/
import Derived.Test.YtpmafnifgegfbaaW2
import Derived.Test.YtpmafnifgegfbaaGW
namespace Go.Proofs.Ytpmafnifgegfbaa
open Go.RowKit Go.Shelf Go.Deep

set_option maxRecDepth 100000 in
set_option maxHeartbeats 2000000 in
theorem proveT_any (x : Pm) (R : List (List Int)) (vs : List Int) (A B : Option Addr) (c vc : Nat) (w : World) (hok : PmAt x w) (hp : PoOk x.p) (hr : IRows R A w) (hR : RowsOk x.p R) (hv : TrueAt x.p R vs) (hvr : Row intL 1 w w.heap.size B vs) :
  Calls Try.prog 29 #[pmV x, .slice A R.length c, vi (-1), .slice B vs.length vc] w fun e w' => e = .returned (.bool true) ∧ newer w w' := by
 have hnw := newer_allocH w (.cells (pmC x) 32)
 have hbx := Whole.made w 32 (pmC x)
 have HC := Lib.hid (check_yes x R A c _ (hok.next hnw) hp (hr.next hnw) hR)
 have HP := Lib.hid (And.intro hp (And.intro hR hv))
 have HR := Lib.hid (And.intro hok (And.intro hr hvr))
 have hn1 := hp.n1
 have hn0 := hp.n0
 have hn := hR.n
 have hgd := hp.gd
 have H0 := Lib.hid (And.intro hnw hbx)
 have x0 := hbx.at 0 (v := .slice x.a x.p.es.length x.c) rfl
 have x1 := hbx.at 1 (v := vi x.p.g) rfl
 have x2 := hbx.at 2 (v := vi x.p.d) rfl
 have x3 := hbx.at 3 (v := vi x.p.fall) rfl
 have x4 := hbx.at 4 (v := vi x.p.out) rfl
 have x5 := hbx.at 5 (v := vi x.p.ah) rfl
 have hvl := hv.len
 rw [hvl]
 obtain ⟨n, hN⟩ : ∃ n, n = R.length := ⟨_, rfl⟩
 have HN := Lib.hid (And.intro hN hvl)
 rw [← hN] at hn ⊢
 rw [← hN] at HC
 clear hok hp hr hR hv hvr hnw hbx hN hvl
 go_enter Try.func29, Try.ntmps29
 go_wp2_with fail
 refine (HC.out).mono ?_
 rintro e w1 ⟨rfl, hb⟩
 have H1 := Lib.hid (And.intro (newer_trans H0.out.1 hb) (H0.out.2.below hb H0.out.2.lt))
 clear x0 x1 x2 x3 x4 x5 H0 HC hb
 have x0 := H1.out.2.at 0 (v := .slice x.a x.p.es.length x.c) rfl
 go_wp2_with fail
 refine (yes66 _ _ _ _ (by omega)).mono ?_
 rintro e w2 ⟨rfl, rfl⟩
 clear x0
 go_wp2_with fail
 go_loopw [9, 10, 11, 34] (fun _ _ _ i wr => ∃ k : Nat, k ≤ n ∧ i = .int .i64 k ∧ newer w wr ∧ Whole wr w.heap.size 32 (pmC x)) (fun _ _ _ i _ => n - (intOf i).toNat)
 case atStart => exact ⟨0, Nat.zero_le _, rfl, H1.out⟩
 case round =>
  obtain ⟨k, hk, rfl, hj⟩ := hrel
  have HJ := Lib.hid hj
  clear hj
  by_cases hlt : k < n
  ·obtain ⟨l, hl⟩ := get_of_lt (l := R) (k := k) (by have := HN.out.1; omega)
   obtain ⟨v, hv⟩ := get_of_lt (l := vs) (k := k) (by have h1 := HN.out.1; have h2 := HN.out.2; omega)
   obtain ⟨rb, ro, lb, lc, rfl, hrb, h0, hrow⟩ := (HR.out.2.1.next HJ.out.1) k l hl
   obtain ⟨vb, vo, rfl, hvb2, v0⟩ := row1 (HR.out.2.2.below HJ.out.1) hv
   have hll := HP.out.2.1.l l (List.mem_of_getElem? hl)
   have hlb := HP.out.2.1.b l (List.mem_of_getElem? hl)
   have hag := HP.out.2.2.ag k l v hl hv
   have hvbd := HP.out.2.2.bd v (List.mem_of_getElem? hv)
   have habd := agN_bd HP.out.1.e hlb (-1)
   obtain ⟨pq, hpq0⟩ : ∃ q, q = agN x.p.es l (-1) := ⟨_, rfl⟩
   have HA := Lib.hid (fun W (h : newer wr W) => agreed_any x l (-1) lb lc W (HR.out.1.next (newer_trans HJ.out.1 h)) HP.out.1 hll hlb ((hrow.below h).more h.size))
   rw [← hpq0] at hag habd HA
   obtain ⟨p, q⟩ := pq
   have hpq : p ≤ v ∧ v ≤ q := hag
   have hkn : (k : Int) < n := by omega
   have HV := Lib.hid hv
   have x0 := HJ.out.2.at 0 (v := .slice x.a x.p.es.length x.c) rfl
   have x1 := HJ.out.2.at 1 (v := vi x.p.g) rfl
   have x2 := HJ.out.2.at 2 (v := vi x.p.d) rfl
   have x3 := HJ.out.2.at 3 (v := vi x.p.fall) rfl
   have x4 := HJ.out.2.at 4 (v := vi x.p.out) rfl
   have x5 := HJ.out.2.at 5 (v := vi x.p.ah) rfl
   clear hl hv hrb hrow hvb2 hll hlb hag habd hpq0
   go_upto_region 6 with fail
   refine wp_words (by kernel_rfl) (region_told 8 (by kernel_rfl) (by kernel_rfl) (fun W => Below wr.heap.size wr W) newer (pickD [vIs (pmV x), vIs (.slice (some ⟨rb, ro, none⟩) n c), vIs (.int .i64 k), vIs (.pointer (some ⟨rb, ro + k, none⟩)), vIs (.slice lb l.length lc), vIs (vi (-1)), vIs (prV (p, q)), vNew wr.heap.size 136 #[vi 0, vi 0]]) (fun h k => newer_trans h k) (pickD_stable _ ⟨vIs_st, vIs_st, vIs_st, vIs_st, vIs_st, vIs_st, vIs_st, vNew_st, trivial⟩) (Below.refl _ wr).drew (Below.refl _ _) ?_ ?_)
   ·refine ⟨?_, ?_, ?_, ?_, ?_, ?_, ?_, ?_, trivial⟩
    ·intro a W hG hR hO hp; have h4 := hO.slot 4 (by kernel_rfl); have c0 := keep_cell x0 hG; have c1 := keep_cell x1 hG; have c2 := keep_cell x2 hG; have c3 := keep_cell x3 hG; have c4 := keep_cell x4 hG; have c5 := keep_cell x5 hG; refine kY (v := pmV x) hG rfl ?_; simp [slotOf] at h4; simp [execOp, go_sem, h4, c0, c1, c2, c3, c4, c5]
    ·exact fun a W hG _ hO _ => kM 1 rfl (hO.slot 1 (by kernel_rfl)) rfl hG
    ·exact fun a W hG _ hO _ => kM 9 rfl (hO.slot 9 (by kernel_rfl)) rfl hG
    ·intro a W hG hR hO hp; have h40 : slotOf a 40 = .slice (some ⟨rb, ro, none⟩) n c := hp.1; have h41 : slotOf a 41 = .int .i64 k := hp.2.1; refine kY (v := .pointer (some ⟨rb, ro + k, none⟩)) hG rfl ?_; simp [slotOf] at h40 h41; simp [execOp, go_sem, h40, h41, hkn]
    ·intro a W hG hR hO hp; have h42 : slotOf a 42 = .pointer (some ⟨rb, ro + k, none⟩) := hp.1; have c0 := keep_cell h0 hG; refine kY (v := .slice lb l.length lc) hG rfl ?_; simp [slotOf] at h42; simp [execOp, go_sem, h42, c0]
    ·exact fun a W hG _ hO _ => kM 2 rfl (hO.slot 2 (by kernel_rfl)) rfl hG
    ·intro a W hG hR hO hp
     have h39 : slotOf a 39 = pmV x := hp.1
     have h43 : slotOf a 43 = .slice lb l.length lc := hp.2.1
     have h44 : slotOf a 44 = vi (-1) := hp.2.2.1
     refine wp_enters (f := 67) (args := #[pmV x, .slice lb l.length lc, vi (-1)]) ?_ ((HA.out W hG).mono ?_)
     ·simp [slotOf] at h39 h43 h44
      simp [go_sem, h39, h43, h44]
     ·rintro e w' ⟨rfl, hb⟩
      exact ⟨_, rfl, _, rfl, rfl, hb, below_next hG hb⟩
    ·intro a W hG hR hO hp; refine wp_makes (v := .pointer (some ⟨W.heap.size, 0, none⟩)) (W' := W.alloc (.cells #[vi 0, vi 0] 136)) ?_ ⟨_, rfl, ⟨_, rfl, hG.size, Whole.made _ _ _⟩, newer_allocH _ _, below_next hG (newer_allocH _ _)⟩; skip; simp [execOp, go_sem]
   ·intro w6 hG hR
    rintro _ rfl _ rfl _ rfl _ rfl _ rfl _ rfl _ rfl _ ⟨g, rfl, hg, hW⟩
    change wpList _ _ _ _ _ _
    simp only [Act.put, List.setIfInBounds_toArray, List.set_cons_zero, List.set_cons_succ, List.drop_succ_cons, List.drop_zero]
    have b0 := hW.at 0 (v := vi 0) rfl
    have b1 := hW.at 1 (v := vi 0) rfl
    have f0 := hW.free 0
    have f1 := hW.free 1
    have HW6 := Lib.hid (And.intro hW (And.intro hg (And.intro (newer_trans HJ.out.1 hG) (And.intro (HJ.out.2.below hG HJ.out.2.lt) HJ.out.2.lt))))
    clear hW hg hG hR x0 x1 x2 x3 x4 x5 h0 v0
    go_upto_region 7 with fail
    have hbx7 : Whole ((w6.setCell ⟨g, 0, none⟩ (vi p)).setCell ⟨g, 1, none⟩ (vi q)) w.heap.size 32 (pmC x) := (HW6.out.2.2.2.1.far (p := ⟨g, 0, none⟩) (by show w.heap.size ≠ g; have h1 := HW6.out.2.1; have h2 := HW6.out.2.2.2.2; omega) _).far (p := ⟨g, 1, none⟩) (by show w.heap.size ≠ g; have h1 := HW6.out.2.1; have h2 := HW6.out.2.2.2.2; omega) _
    have hnw7 : newer w ((w6.setCell ⟨g, 0, none⟩ (vi p)).setCell ⟨g, 1, none⟩ (vi q)) := nw_of_grown HW6.out.2.2.1 (by have h1 := HW6.out.2.1; have h2 := HW6.out.2.2.2.2; omega) (grown_two w6 g (vi p) (vi q))
    have hg7 := whole_two HW6.out.1 (vi p) (vi q)
    clear b0 b1 f0 f1
    refine genQ (fun X => newer w X ∧ Whole X w.heap.size 32 (pmC x) ∧ Whole X g 136 #[vi p, vi q]) ⟨hnw7, hbx7, hg7⟩ ?_
    clear hnw7 hbx7 hg7 HW6 w6
    rintro w7 ⟨n7, bx7, wg7⟩
    have H7 := Lib.hid (And.intro n7 bx7)
    have g0 := wg7.at 0 (v := vi p) rfl
    have g1 := wg7.at 1 (v := vi q) rfl
    have x1 := bx7.at 1 (v := vi x.p.g) rfl
    have x2 := bx7.at 2 (v := vi x.p.d) rfl
    clear bx7 wg7
    by_cases hkz : k = 0
    ·clear n7
     refine wp_words (by kernel_rfl) (region_told_u 26 (by kernel_rfl) (by kernel_rfl) [false, false, false, false, false, false, false, false, false, false, false, true, true, true, true, true, true, true, true, true, true, true, true, true, true, false] (fun W => Below w7.heap.size w7 W) newer [vIs (vi v), vIs (.pointer (some ⟨g, 0, none⟩)), vIs (vi p), vIs (.pointer (some ⟨g, 1, none⟩)), vIs (vi q), vIs (.bool true), vIs (.bool false), vIs (.bool false), vIs (.int .i64 k), vIs (.bool false), vIs (.bool false), vIs (undef), vIs (undef), vIs (undef), vIs (undef), vIs (undef), vIs (undef), vIs (undef), vIs (undef), vIs (undef), vIs (undef), vIs (undef), vIs (undef), vIs (undef), vIs (undef), vIs (.bool false)] (by repeat' first | refine And.intro ?_ ?_ | exact trivial | exact rfl | (intro v W h; obtain rfl : v = _ := h; first | rfl | (simp; done) | (simp [undef]; done))) (by repeat' first | refine And.intro ?_ ?_ | exact trivial | exact (fun h => Bool.noConfusion (show false = true from h)) | exact (fun _ _ => rfl)) (fun h k => newer_trans h k) (pickD_stable _ (by repeat' first | refine And.intro ?_ ?_ | exact trivial | exact vIs_st)) (Below.refl _ w7).drew (Below.refl _ _) ?_ ?_)
     ·refine ⟨.inr ?_, .inr ?_, .inr ?_, .inr ?_, .inr ?_, .inr ?_, .inr ?_, .inr ?_, .inr ?_, .inr ?_, .inr ?_, .inl rfl, .inl rfl, .inl rfl, .inl rfl, .inl rfl, .inl rfl, .inl rfl, .inl rfl, .inl rfl, .inl rfl, .inl rfl, .inl rfl, .inl rfl, .inl rfl, .inr ?_, trivial⟩
      ·exact fun a W hG _ hO _ => kM 10 rfl (hO.slot 10 (by kernel_rfl)) rfl hG
      ·intro a W hG hR hO hp; have h11 := hO.slot 11 (by kernel_rfl); refine kY (v := .pointer (some ⟨g, 0, none⟩)) hG rfl ?_; simp [slotOf] at h11; simp [execOp, go_sem, h11]
      ·intro a W hG hR hO hp; have h47 : slotOf a 47 = .pointer (some ⟨g, 0, none⟩) := hp.1; have c0 := keep_cell g0 hG; refine kY (v := vi p) hG rfl ?_; simp [slotOf] at h47; simp [execOp, go_sem, h47, c0]
      ·intro a W hG hR hO hp; have h11 := hO.slot 11 (by kernel_rfl); refine kY (v := .pointer (some ⟨g, 1, none⟩)) hG rfl ?_; simp [slotOf] at h11; simp [execOp, go_sem, h11]
      ·intro a W hG hR hO hp; have h49 : slotOf a 49 = .pointer (some ⟨g, 1, none⟩) := hp.1; have c0 := keep_cell g1 hG; refine kY (v := vi q) hG rfl ?_; simp [slotOf] at h49; simp [execOp, go_sem, h49, c0]
      ·intro a W hG hR hO hp
       have h46 : slotOf a 46 = vi v := hp.1
       have h48 : slotOf a 48 = vi p := hp.2.1
       have h50 : slotOf a 50 = vi q := hp.2.2.1
       refine wp_enters (f := 66) (args := #[vi v, vi p, vi q]) ?_ ((yes66 v p q W hpq).mono ?_)
       ·simp [slotOf] at h46 h48 h50
        simp [go_sem, h46, h48, h50]
       ·rintro e w' ⟨rfl, rfl⟩
        exact ⟨_, rfl, _, rfl, rfl, Below.refl _ _, hG⟩
      ·intro a W hG hR hO hp; have h51 : slotOf a 51 = .bool true := hp.1; refine kY (v := .bool false) hG rfl ?_; simp [slotOf] at h51; simp [execOp, go_sem, h51]
      ·exact fun a W hG _ _ hp => kM 52 rfl hp.1 rfl hG
      ·exact fun a W hG _ hO _ => kM 9 rfl (hO.slot 9 (by kernel_rfl)) rfl hG
      ·intro a W hG hR hO hp; have h54 : slotOf a 54 = .int .i64 k := hp.1; refine kY (v := .bool false) hG rfl ?_; simp [slotOf] at h54; simp [execOp, go_sem, h54, hkz]
      ·exact fun a W hG _ _ hp => kM 55 rfl hp.1 rfl hG
      ·intro a W hG hR hO hp; have h56 : slotOf a 56 = .bool false := hp.1; have h70 : slotOf a 70 = undef := hp.2.1; refine kY (v := .bool false) hG rfl ?_; simp [slotOf] at h56 h70; simp [execOp, go_sem, h56, h70]
     ·intro w8 hG hR
      rintro _ rfl _ rfl _ rfl _ rfl _ rfl _ rfl _ rfl _ rfl _ rfl _ rfl _ rfl _ rfl _ rfl _ rfl _ rfl _ rfl _ rfl _ rfl _ rfl _ rfl _ rfl _ rfl _ rfl _ rfl _ rfl _ rfl
      change wpList _ _ _ _ _ _
      simp only [Act.put, List.setIfInBounds_toArray, List.set_cons_zero, List.set_cons_succ, List.drop_succ_cons, List.drop_zero]
      have HE := Lib.hid (And.intro (newer_trans H7.out.1 hG) (H7.out.2.below hG H7.out.2.lt))
      clear hG hR g0 g1 x1 x2
      go_wp2_with fail
      go_roundw
      case rel => exact ⟨k + 1, by omega, by go_num, HE.out⟩
      case measure => simp [intOf]; omega
    ·have hk0 : 0 < k := by omega
     obtain ⟨k1, rfl⟩ : ∃ k1, k = k1 + 1 := ⟨k - 1, by omega⟩
     obtain ⟨u, hu⟩ := get_of_lt (l := vs) (k := k1) (by have h1 := HN.out.1; have h2 := HN.out.2; omega)
     have hst := HP.out.2.2.st k1 u v hu HV.out
     have hub := HP.out.2.2.bd u (List.mem_of_getElem? hu)
     have hst : -x.p.d ≤ v - u ∧ v - u ≤ x.p.g := by omega
     obtain ⟨ub, uo, eu, _, u0⟩ := row1 (HR.out.2.2.below n7) hu
     injection eu with eu
     injection eu with eu1 eu2
     subst eu1
     subst eu2
     have hk1 : IntKind.i64.wrap (((k1 + 1 : Nat) : Int) - 1) = (k1 : Int) := by rw [show ((k1 + 1 : Nat) : Int) - 1 = k1 by omega]; exact IntWalk.i64_in _ (by omega)
     have hk1n : (k1 : Int) < n := by omega
     have hw1 : IntKind.i64.wrap (v - u) = v - u := IntWalk.i64_in _ (by omega)
     have hw2 : IntKind.i64.wrap (-x.p.d) = -x.p.d := IntWalk.i64_in _ (by omega)
     clear n7 hu hub hkz
     obtain ⟨k, hkk⟩ : ∃ k, k = k1 + 1 := ⟨_, rfl⟩
     rw [← hkk] at hk0 hk1 hkn hk hlt ⊢
     have HKK := Lib.hid hkk
     clear hkk
     refine wp_words (by kernel_rfl) (region_told_u 26 (by kernel_rfl) (by kernel_rfl) [false, false, false, false, false, false, false, false, false, false, false, false, false, false, false, false, false, false, false, false, false, false, false, false, false, false] (fun W => Below w7.heap.size w7 W) newer [vIs (vi v), vIs (.pointer (some ⟨g, 0, none⟩)), vIs (vi p), vIs (.pointer (some ⟨g, 1, none⟩)), vIs (vi q), vIs (.bool true), vIs (.bool false), vIs (.bool false), vIs (.int .i64 k), vIs (.bool true), vIs (.bool true), vIs (vi v), vIs (.slice (some ⟨vb, vo, none⟩) n vc), vIs (.int .i64 k), vIs (.int .i64 k1), vIs (.pointer (some ⟨vb, vo + k1, none⟩)), vIs (vi u), vIs (vi ((v - u))), vIs (.pointer (some ⟨w.heap.size, 2, none⟩)), vIs (vi x.p.d), vIs (vi ((-x.p.d))), vIs (.pointer (some ⟨w.heap.size, 1, none⟩)), vIs (vi x.p.g), vIs (.bool true), vIs (.bool false), vIs (.bool false)] (by repeat' first | refine And.intro ?_ ?_ | exact trivial | exact rfl | (intro v W h; obtain rfl : v = _ := h; first | rfl | (simp; done) | (simp [undef]; done))) (by repeat' first | refine And.intro ?_ ?_ | exact trivial | exact (fun h => Bool.noConfusion (show false = true from h)) | exact (fun _ _ => rfl)) (fun h k => newer_trans h k) (pickD_stable _ (by repeat' first | refine And.intro ?_ ?_ | exact trivial | exact vIs_st)) (Below.refl _ w7).drew (Below.refl _ _) ?_ ?_)
     ·refine ⟨.inr ?_, .inr ?_, .inr ?_, .inr ?_, .inr ?_, .inr ?_, .inr ?_, .inr ?_, .inr ?_, .inr ?_, .inr ?_, .inr ?_, .inr ?_, .inr ?_, .inr ?_, .inr ?_, .inr ?_, .inr ?_, .inr ?_, .inr ?_, .inr ?_, .inr ?_, .inr ?_, .inr ?_, .inr ?_, .inr ?_, trivial⟩
      ·exact fun a W hG _ hO _ => kM 10 rfl (hO.slot 10 (by kernel_rfl)) rfl hG
      ·intro a W hG hR hO hp; have h11 := hO.slot 11 (by kernel_rfl); refine kY (v := .pointer (some ⟨g, 0, none⟩)) hG rfl ?_; simp [slotOf] at h11; simp [execOp, go_sem, h11]
      ·intro a W hG hR hO hp; have h47 : slotOf a 47 = .pointer (some ⟨g, 0, none⟩) := hp.1; have c0 := keep_cell g0 hG; refine kY (v := vi p) hG rfl ?_; simp [slotOf] at h47; simp [execOp, go_sem, h47, c0]
      ·intro a W hG hR hO hp; have h11 := hO.slot 11 (by kernel_rfl); refine kY (v := .pointer (some ⟨g, 1, none⟩)) hG rfl ?_; simp [slotOf] at h11; simp [execOp, go_sem, h11]
      ·intro a W hG hR hO hp; have h49 : slotOf a 49 = .pointer (some ⟨g, 1, none⟩) := hp.1; have c0 := keep_cell g1 hG; refine kY (v := vi q) hG rfl ?_; simp [slotOf] at h49; simp [execOp, go_sem, h49, c0]
      ·intro a W hG hR hO hp
       have h46 : slotOf a 46 = vi v := hp.1
       have h48 : slotOf a 48 = vi p := hp.2.1
       have h50 : slotOf a 50 = vi q := hp.2.2.1
       refine wp_enters (f := 66) (args := #[vi v, vi p, vi q]) ?_ ((yes66 v p q W hpq).mono ?_)
       ·simp [slotOf] at h46 h48 h50
        simp [go_sem, h46, h48, h50]
       ·rintro e w' ⟨rfl, rfl⟩
        exact ⟨_, rfl, _, rfl, rfl, Below.refl _ _, hG⟩
      ·intro a W hG hR hO hp; have h51 : slotOf a 51 = .bool true := hp.1; refine kY (v := .bool false) hG rfl ?_; simp [slotOf] at h51; simp [execOp, go_sem, h51]
      ·exact fun a W hG _ _ hp => kM 52 rfl hp.1 rfl hG
      ·exact fun a W hG _ hO _ => kM 9 rfl (hO.slot 9 (by kernel_rfl)) rfl hG
      ·intro a W hG hR hO hp; have h54 : slotOf a 54 = .int .i64 k := hp.1; refine kY (v := .bool true) hG rfl ?_; simp [slotOf] at h54; simp [execOp, go_sem, h54, hk0]
      ·exact fun a W hG _ _ hp => kM 55 rfl hp.1 rfl hG
      ·exact fun a W hG _ hO _ => kM 10 rfl (hO.slot 10 (by kernel_rfl)) rfl hG
      ·exact fun a W hG _ hO _ => kM 3 rfl (hO.slot 3 (by kernel_rfl)) rfl hG
      ·exact fun a W hG _ hO _ => kM 9 rfl (hO.slot 9 (by kernel_rfl)) rfl hG
      ·intro a W hG hR hO hp; have h59 : slotOf a 59 = .int .i64 k := hp.1; refine kY (v := .int .i64 k1) hG rfl ?_; simp [slotOf] at h59; simp [execOp, go_sem, h59, hk1]
      ·intro a W hG hR hO hp; have h58 : slotOf a 58 = .slice (some ⟨vb, vo, none⟩) n vc := hp.1; have h60 : slotOf a 60 = .int .i64 k1 := hp.2.1; refine kY (v := .pointer (some ⟨vb, vo + k1, none⟩)) hG rfl ?_; simp [slotOf] at h58 h60; simp [execOp, go_sem, h58, h60, hk1n]
      ·intro a W hG hR hO hp; have h61 : slotOf a 61 = .pointer (some ⟨vb, vo + k1, none⟩) := hp.1; have c0 := keep_cell u0 hG; refine kY (v := vi u) hG rfl ?_; simp [slotOf] at h61; simp [execOp, go_sem, h61, c0]
      ·intro a W hG hR hO hp; have h57 : slotOf a 57 = vi v := hp.1; have h62 : slotOf a 62 = vi u := hp.2.1; refine kY (v := vi ((v - u))) hG rfl ?_; simp [slotOf] at h57 h62; simp [execOp, go_sem, h57, h62, hw1]
      ·intro a W hG hR hO hp; have h4 := hO.slot 4 (by kernel_rfl); refine kY (v := .pointer (some ⟨w.heap.size, 2, none⟩)) hG rfl ?_; simp [slotOf] at h4; simp [execOp, go_sem, h4]
      ·intro a W hG hR hO hp; have h64 : slotOf a 64 = .pointer (some ⟨w.heap.size, 2, none⟩) := hp.1; have c0 := keep_cell x2 hG; refine kY (v := vi x.p.d) hG rfl ?_; simp [slotOf] at h64; simp [execOp, go_sem, h64, c0]
      ·intro a W hG hR hO hp; have h65 : slotOf a 65 = vi x.p.d := hp.1; refine kY (v := vi ((-x.p.d))) hG rfl ?_; simp [slotOf] at h65; simp [execOp, go_sem, h65, hw2]
      ·intro a W hG hR hO hp; have h4 := hO.slot 4 (by kernel_rfl); refine kY (v := .pointer (some ⟨w.heap.size, 1, none⟩)) hG rfl ?_; simp [slotOf] at h4; simp [execOp, go_sem, h4]
      ·intro a W hG hR hO hp; have h67 : slotOf a 67 = .pointer (some ⟨w.heap.size, 1, none⟩) := hp.1; have c0 := keep_cell x1 hG; refine kY (v := vi x.p.g) hG rfl ?_; simp [slotOf] at h67; simp [execOp, go_sem, h67, c0]
      ·intro a W hG hR hO hp
       have h63 : slotOf a 63 = vi ((v - u)) := hp.1
       have h66 : slotOf a 66 = vi ((-x.p.d)) := hp.2.1
       have h68 : slotOf a 68 = vi x.p.g := hp.2.2.1
       refine wp_enters (f := 66) (args := #[vi (v - u), vi (-x.p.d), vi x.p.g]) ?_ ((yes66 (v - u) (-x.p.d) x.p.g W hst).mono ?_)
       ·simp [slotOf] at h63 h66 h68
        simp [go_sem, h63, h66, h68]
       ·rintro e w' ⟨rfl, rfl⟩
        exact ⟨_, rfl, _, rfl, rfl, Below.refl _ _, hG⟩
      ·intro a W hG hR hO hp; have h69 : slotOf a 69 = .bool true := hp.1; refine kY (v := .bool false) hG rfl ?_; simp [slotOf] at h69; simp [execOp, go_sem, h69]
      ·intro a W hG hR hO hp; have h56 : slotOf a 56 = .bool true := hp.1; have h70 : slotOf a 70 = .bool false := hp.2.1; refine kY (v := .bool false) hG rfl ?_; simp [slotOf] at h56 h70; simp [execOp, go_sem, h56, h70]
     ·intro w8 hG hR
      rintro _ rfl _ rfl _ rfl _ rfl _ rfl _ rfl _ rfl _ rfl _ rfl _ rfl _ rfl _ rfl _ rfl _ rfl _ rfl _ rfl _ rfl _ rfl _ rfl _ rfl _ rfl _ rfl _ rfl _ rfl _ rfl _ rfl
      change wpList _ _ _ _ _ _
      simp only [Act.put, List.setIfInBounds_toArray, List.set_cons_zero, List.set_cons_succ, List.drop_succ_cons, List.drop_zero]
      have HE := Lib.hid (And.intro (newer_trans H7.out.1 hG) (H7.out.2.below hG H7.out.2.lt))
      clear hG hR g0 g1 x1 x2 u0
      go_wp2_with fail
      go_roundw
      case rel => exact ⟨k + 1, by omega, by go_num, HE.out⟩
      case measure => simp [intOf]; have := HKK.out; omega
  ·go_wp2_with fail
   go_ret
   exact ⟨rfl, HJ.out.1⟩

end Go.Proofs.Ytpmafnifgegfbaa

namespace Go.Proofs.Ytpmafnifgegfbaa
open Go.RowKit Go.Shelf Go.Deep

def watS : Sd := ⟨[⟨⟨0, 6⟩, ⟨0, 0⟩⟩], 0, [⟨0, 1, 0, 0, 0, 0, 0⟩], 0, [4]⟩
theorem wat_err : errN watS = 0 := by decide +kernel
theorem wat_ok : okS watS (freeL watS) = true := by decide +kernel
theorem wat_known : knL watS = [⟨⟨4, 4⟩, ⟨0, 0⟩⟩] := by kernel_rfl
def watP : Po := ⟨[0, 0], 5, 0, 0, 0, 0⟩
theorem watP_ok : PoOk watP := ⟨by decide, by decide, fun e he => by
 have : e = 0 := by simpa [watP] using he
 omega, by decide, by decide, by decide⟩
theorem watR_ok : RowsOk watP [[5, 5]] := ⟨by decide, fun l hl => by rw [List.mem_singleton.1 hl]; rfl, fun l hl n hn => by
 rw [List.mem_singleton.1 hl] at hn
 have : n = 5 := by simpa using hn
 omega⟩
theorem watT_ok : TrueAt watP [[5, 5]] [5] := ⟨rfl, fun v hv => by rw [List.mem_singleton.1 hv]; decide, fun h v v' h1 h2 => by simp at h2, fun v hv => by rw [List.mem_singleton.1 hv]; right; decide, fun h l v h1 h2 => by
 cases h with
 | zero =>
  have e1 : [5, 5] = l := by simpa using h1
  have e2 : 5 = v := by simpa using h2
  rw [← e1, ← e2]
  decide
 | succ h => simp at h1⟩
set_option maxRecDepth 100000 in
set_option maxHeartbeats 4000000 in
theorem watches_any (w : World) : Calls Try.prog 19 #[] w fun e w' => e = .returned (.bool true) ∧ newer w w' := by
 have H1 : Hid (newer w (((w.alloc (.cells #[vi 0, vi 6, vi 0, vi 0] 56)).alloc (.cells #[vi 0, vi 1, vi 0, vi 0, vi 0, vi 0, vi 0] 112)).alloc (.cells #[vi 4] 3)) ∧ SmOk ⟨watS, some ⟨w.heap.size, 0, none⟩, 1, some ⟨w.heap.size + 1, 0, none⟩, 1, some ⟨w.heap.size + 1 + 1, 0, none⟩, 1⟩ (((w.alloc (.cells #[vi 0, vi 6, vi 0, vi 0] 56)).alloc (.cells #[vi 0, vi 1, vi 0, vi 0, vi 0, vi 0, vi 0] 112)).alloc (.cells #[vi 4] 3))) := Lib.hid (by
  have e1 := newer_allocH w (.cells #[vi 0, vi 6, vi 0, vi 0] 56)
  have e2 := newer_allocH (w.alloc (.cells #[vi 0, vi 6, vi 0, vi 0] 56)) (.cells #[vi 0, vi 1, vi 0, vi 0, vi 0, vi 0, vi 0] 112)
  have e3 := newer_allocH ((w.alloc (.cells #[vi 0, vi 6, vi 0, vi 0] 56)).alloc (.cells #[vi 0, vi 1, vi 0, vi 0, vi 0, vi 0, vi 0] 112)) (.cells #[vi 4] 3)
  have a0 := ((Whole.made w 56 #[vi 0, vi 6, vi 0, vi 0]).alloc (.cells #[vi 0, vi 1, vi 0, vi 0, vi 0, vi 0, vi 0] 112)).alloc (.cells #[vi 4] 3)
  have a1 := (Whole.made (w.alloc (.cells #[vi 0, vi 6, vi 0, vi 0] 56)) 112 #[vi 0, vi 1, vi 0, vi 0, vi 0, vi 0, vi 0]).alloc (.cells #[vi 4] 3)
  have a2 := Whole.made ((w.alloc (.cells #[vi 0, vi 6, vi 0, vi 0] 56)).alloc (.cells #[vi 0, vi 1, vi 0, vi 0, vi 0, vi 0, vi 0] 112)) 3 #[vi 4]
  simp only [World.size_alloc] at a1 a2
  exact ⟨newer_trans (newer_trans e1 e2) e3, row_of_whole (enc := spL) (s := 4) (fun _ => rfl) a0 rfl, row_of_whole (enc := tlL) (s := 7) (fun _ => rfl) a1 rfl, row_of_whole (enc := intL) (s := 1) (fun _ => rfl) a2 rfl⟩)
 have HL := Lib.hid (learn_ok ⟨watS, some ⟨w.heap.size, 0, none⟩, 1, some ⟨w.heap.size + 1, 0, none⟩, 1, some ⟨w.heap.size + 1 + 1, 0, none⟩, 1⟩ _ H1.out.2 ⟨(show 1 ≤ 1000 by decide), (show 1 ≤ 1000 by decide), (show 1 ≤ 1000 by decide)⟩ wat_err wat_ok)
 go_enter Try.func19, Try.ntmps19
 go_wp2_with fail
 refine (HL.out).mono ?_
 rintro e w2 ⟨B, d, rfl, ho, hn2⟩
 dsimp only at ho ⊢
 rw [wat_known] at ho
 rw [wat_known]
 have HK := Lib.hid (And.intro ho (newer_trans H1.out.1 hn2))
 clear ho hn2 HL H1
 have H3 : Hid (newer w2 (((w2.alloc (.cells #[vi 0, vi 0] 3)).alloc (.cells #[vi 5, vi 5] 3)).alloc (.cells #[.slice (some ⟨w2.heap.size + 1, 0, none⟩) 2 2] 24)) ∧ PmAt ⟨watP, some ⟨w2.heap.size, 0, none⟩, 2⟩ (((w2.alloc (.cells #[vi 0, vi 0] 3)).alloc (.cells #[vi 5, vi 5] 3)).alloc (.cells #[.slice (some ⟨w2.heap.size + 1, 0, none⟩) 2 2] 24)) ∧ IRows [[5, 5]] (some ⟨w2.heap.size + 1 + 1, 0, none⟩) (((w2.alloc (.cells #[vi 0, vi 0] 3)).alloc (.cells #[vi 5, vi 5] 3)).alloc (.cells #[.slice (some ⟨w2.heap.size + 1, 0, none⟩) 2 2] 24))) := Lib.hid (by
  have e1 := newer_allocH w2 (.cells #[vi 0, vi 0] 3)
  have e2 := newer_allocH (w2.alloc (.cells #[vi 0, vi 0] 3)) (.cells #[vi 5, vi 5] 3)
  have e3 := newer_allocH ((w2.alloc (.cells #[vi 0, vi 0] 3)).alloc (.cells #[vi 5, vi 5] 3)) (.cells #[.slice (some ⟨w2.heap.size + 1, 0, none⟩) 2 2] 24)
  have a0 := ((Whole.made w2 3 #[vi 0, vi 0]).alloc (.cells #[vi 5, vi 5] 3)).alloc (.cells #[.slice (some ⟨w2.heap.size + 1, 0, none⟩) 2 2] 24)
  have a1 := (Whole.made (w2.alloc (.cells #[vi 0, vi 0] 3)) 3 #[vi 5, vi 5]).alloc (.cells #[.slice (some ⟨w2.heap.size + 1, 0, none⟩) 2 2] 24)
  have a2 := Whole.made ((w2.alloc (.cells #[vi 0, vi 0] 3)).alloc (.cells #[vi 5, vi 5] 3)) 24 #[.slice (some ⟨w2.heap.size + 1, 0, none⟩) 2 2]
  simp only [World.size_alloc] at a1 a2
  refine ⟨newer_trans (newer_trans e1 e2) e3, row_of_whole (enc := intL) (s := 1) (fun _ => rfl) a0 rfl, fun k l hk => ?_⟩
  cases k with
  | succ k => simp at hk
  | zero =>
   have e : [5, 5] = l := by simpa using hk
   subst e
   exact ⟨w2.heap.size + 1 + 1, 0, some ⟨w2.heap.size + 1, 0, none⟩, 2, rfl, a2.lt, a2.at 0 rfl, row_of_whole (enc := intL) (s := 1) (fun _ => rfl) a1 rfl⟩)
 have HLV := Lib.hid (levels_yes ⟨watP, some ⟨w2.heap.size, 0, none⟩, 2⟩ [[5, 5]] [5] _ 1 _ H3.out.2.1 watP_ok H3.out.2.2 watR_ok watT_ok)
 go_wp2_with fail
 refine (HLV.out).mono ?_
 rintro e w4 ⟨hn4, Z, B4, d4, rfl, hrow, hlen, hho⟩
 obtain ⟨⟨lo, hi⟩, rfl⟩ : ∃ s, Z = [s] := by
  cases Z with
  | nil => simp at hlen
  | cons s t =>
   cases t with
   | nil => exact ⟨s, rfl⟩
   | cons => simp at hlen
 have hh := hho 0 (lo, hi) 5 rfl rfl
 dsimp only at hh
 have hlv : levelA watP hi = 3 := by
  have h1 : leftA watP hi = 0 := by unfold leftA; rw [if_pos (show watP.fall ≤ hi from hh.2.2.1)]
  unfold levelA
  rw [h1]
  decide
 have hn34 := newer_trans H3.out.1 hn4
 have ho4 := own_below HK.out.1 hn34
 obtain ⟨g, rfl, hg⟩ := own_some ho4 (by decide)
 have hrw := row_of_own (enc := spL) (size := 4) (by decide) (fun _ => rfl) ho4
 obtain ⟨b1, o1, e1, _, s0, s1, s2, s3⟩ := row4 (k := 0) hrw rfl
 injection e1 with e1
 injection e1 with eb eo
 subst eb
 subst eo
 obtain ⟨zb, zo, rfl, _, hc⟩ := hrow (by simp)
 have t2 := hc 0 (lo, hi) rfl 2 (.int .u8 (levelA watP hi)) rfl
 rw [hlv] at t2
 have HN := Lib.hid (newer_trans HK.out.2 hn34)
 clear hn4 hlen hho hh hlv hn34 ho4 hg hrw hc HLV H3 HK
 go_wp2_with fail
 go_ret
 exact ⟨rfl, HN.out⟩

end Go.Proofs.Ytpmafnifgegfbaa
