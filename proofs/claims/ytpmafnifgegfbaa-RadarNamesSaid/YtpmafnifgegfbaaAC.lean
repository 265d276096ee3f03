/- Does a field agree with a survey. -/
import Derived.Test.YtpmafnifgegfbaaAC0
namespace Go.Proofs.Ytpmafnifgegfbaa
open Go.RowKit Go.Shelf Go.Deep

set_option maxRecDepth 100000 in
set_option maxHeartbeats 4000000 in
theorem prove_any (y : Sm) (f : List Mv) (fa : Option Addr) (fc : Nat) (w : World) (hok : SmOk y w) (few : SmFew y) (hf : Row mvL 2 w w.heap.size fa f) (hfl : f.length ≤ 1000) :
    Calls Try.prog 44 #[smV y, .slice fa f.length fc] w fun e w' => e = .returned (.bool (proveB y.s f)) ∧ newer w w' := by
  have hnw := newer_allocH w (.cells (smC y) 40)
  have HC := Lib.hid (check_any y _ (hok.next hnw) few)
  have HN := Lib.hid hnw
  have HOK := Lib.hid hok
  have HF := Lib.hid hf
  have hbx := Whole.made w 40 (smC y)
  have x0 := hbx.at 0 (v := .slice y.sa y.s.spots.length y.sc) rfl
  have x1 := hbx.at 1 (v := vi y.s.strain) rfl
  have x2 := hbx.at 2 (v := .slice y.ta y.s.tools.length y.tc) rfl
  have x3 := hbx.at 3 (v := vi y.s.day) rfl
  have x4 := hbx.at 4 (v := .slice y.ra y.s.reads.length y.rc) rfl
  have HBX := Lib.hid hbx
  clear hnw hok few hbx hf
  obtain ⟨res, hres⟩ : ∃ q, q = proveB y.s f := ⟨_, rfl⟩
  rw [← hres]
  have HRS := Lib.hid hres
  clear hres
  by_cases he : errN y.s = 0
  case neg =>
    have HRF := Lib.hid (show res = false by rw [HRS.out]; unfold proveB; simp [he])
    obtain ⟨er, her⟩ : ∃ q, q = errN y.s := ⟨_, rfl⟩
    rw [← her] at HC he
    have hen : (er != 0) = true := by simpa using he
    clear her he
    go_enter Try.func44, Try.ntmps44
    go_wp2_with fail
    refine (HC.out).mono ?_
    rintro e w1 ⟨rfl, hb⟩
    have HE := Lib.hid (newer_trans HN.out hb)
    clear hb HC x0 x1 x2 x3 x4
    go_wp2_with fail
    go_ret
    exact ⟨ret_bool HRF.out.symm, HE.out⟩
  case pos =>
    rw [he] at HC
    have HS := Lib.hid (err_iff.1 he)
    have HE0 := Lib.hid he
    clear he
    by_cases hl : f.length = y.s.spots.length
    case neg =>
      have HRF := Lib.hid (show res = false by rw [HRS.out]; unfold proveB; simp [hl])
      have hln : ((f.length : Int) != y.s.spots.length) = true := by rw [bne_iff_ne]; omega
      clear hl
      go_enter Try.func44, Try.ntmps44
      go_wp2_with fail
      refine (HC.out).mono ?_
      rintro e w1 ⟨rfl, hb⟩
      have x0 := (HBX.out.below hb HBX.out.lt).at 0 (v := .slice y.sa y.s.spots.length y.sc) rfl
      have HE := Lib.hid (newer_trans HN.out hb)
      clear hb HC x1 x2 x3 x4
      go_wp2_with fail
      go_ret
      exact ⟨ret_bool HRF.out.symm, HE.out⟩
    case pos =>
      have HLE := Lib.hid hl
      obtain ⟨m0, hm0⟩ : ∃ m, f[0]? = some m := ⟨_, List.getElem?_eq_getElem (by have := HS.out.spots; omega)⟩
      obtain ⟨fb, fo, ef, -⟩ := row2 HF.out hm0
      subst ef
      clear hm0 m0
      have hln : ((f.length : Int) != y.s.spots.length) = false := by rw [bne_eq_false_iff_eq]; omega
      clear hl
      go_enter Try.func44, Try.ntmps44
      go_wp2_with fail
      refine (HC.out).mono ?_
      rintro e w1 ⟨rfl, hb⟩
      have x0 := (HBX.out.below hb HBX.out.lt).at 0 (v := .slice y.sa y.s.spots.length y.sc) rfl
      have HE := Lib.hid (show newer w w1 ∧ Whole w1 w.heap.size 40 (smC y) from ⟨newer_trans HN.out hb, HBX.out.below hb HBX.out.lt⟩)
      clear hb HC x1 x2 x3 x4
      go_wp2_with fail
      clear x0
      go_loopw [5, 6, 7, 23] (fun _ _ _ s23 wr => ∃ i : Nat, i ≤ f.length ∧ s23 = vi i ∧ (∀ j, j < i → okF y.s f j = true) ∧ newer w wr ∧ Whole wr w.heap.size 40 (smC y)) (fun _ _ _ s23 _ => f.length - (intOf s23).toNat)
      case atStart => exact ⟨0, Nat.zero_le _, rfl, fun j hj => absurd hj (Nat.not_lt_zero _), HE.out.1, HE.out.2⟩
      case round =>
        obtain ⟨i, hi, rfl, hall, hnw, hxb⟩ := hrel
        have HJ := Lib.hid (And.intro hall (And.intro hnw hxb))
        clear hall hnw hxb HE
        by_cases hlt : i < f.length
        case pos =>
          obtain ⟨m, hm⟩ : ∃ m, f[i]? = some m := ⟨_, List.getElem?_eq_getElem hlt⟩
          obtain ⟨p, hp⟩ : ∃ p, y.s.spots[i]? = some p := ⟨_, List.getElem?_eq_getElem (by have := HLE.out; omega)⟩
          have HM := Lib.hid (And.intro hm hp)
          have hfr := (HF.out.below HJ.out.2.1).more HJ.out.2.1.size
          obtain ⟨c0, c1⟩ := mv_at hfr hm
          obtain ⟨sb, so, es, hsb, q0, q1, q2, q3⟩ := row4 (HOK.out.next HJ.out.2.1).sp hp
          have x0 := HJ.out.2.2.at 0 (v := .slice y.sa y.s.spots.length y.sc) rfl
          rw [es] at x0
          have hsl : (i : Int) < y.s.spots.length := by have := HLE.out; omega
          have HX := Lib.hid (show newer w ((wr.alloc (.cells (mvC m) 116)).alloc (.cells (spC p) 56)) ∧ Whole ((wr.alloc (.cells (mvC m) 116)).alloc (.cells (spC p) 56)) w.heap.size 40 (smC y) ∧ Whole ((wr.alloc (.cells (mvC m) 116)).alloc (.cells (spC p) 56)) wr.heap.size 116 (mvC m) ∧ Whole ((wr.alloc (.cells (mvC m) 116)).alloc (.cells (spC p) 56)) (wr.heap.size + 1) 56 (spC p) from by
            have n1 := newer_trans (newer_allocH wr (.cells (mvC m) 116)) (newer_allocH (wr.alloc (.cells (mvC m) 116)) (.cells (spC p) 56))
            have m2 := Whole.made (wr.alloc (.cells (mvC m) 116)) 56 (spC p)
            rw [World.size_alloc] at m2
            exact ⟨newer_trans HJ.out.2.1 n1, HJ.out.2.2.below n1 HJ.out.2.2.lt, (Whole.made wr 116 (mvC m)).alloc _, m2⟩)
          have x0' := cell_alloc x0 (.cells (mvC m) 116)
          have q0' := cell_alloc q0 (.cells (mvC m) 116)
          have q1' := cell_alloc q1 (.cells (mvC m) 116)
          have q2' := cell_alloc q2 (.cells (mvC m) 116)
          have q3' := cell_alloc q3 (.cells (mvC m) 116)
          clear hm hp hfr es hsb x0 q0 q1 q2 q3
          go_upto_region 7 with fail
          obtain ⟨mb, hmb⟩ : ∃ q, q = wr.heap.size := ⟨_, rfl⟩
          rw [← hmb] at HX ⊢
          obtain ⟨pb, hpb⟩ : ∃ q, q = mb + 1 := ⟨_, rfl⟩
          rw [← hpb] at HX ⊢
          refine genQ (fun X => newer w X ∧ Whole X w.heap.size 40 (smC y) ∧ Whole X mb 116 (mvC m) ∧ Whole X pb 56 (spC p)) HX.out ?_
          clear HX hmb hpb x0' c0 c1 q0' q1' q2' q3'
          rintro w4 ⟨g1, g2, g3, g4⟩
          have m0 := g3.at 0 (v := vi m.1) rfl
          have m1 := g3.at 1 (v := vi m.2) rfl
          have p0 := g4.at 0 (v := vi p.x.lo) rfl
          have p1 := g4.at 1 (v := vi p.x.hi) rfl
          have p2 := g4.at 2 (v := vi p.y.lo) rfl
          have p3 := g4.at 3 (v := vi p.y.hi) rfl
          have x1 := g2.at 1 (v := vi y.s.strain) rfl
          have hfr := (HF.out.below g1).more g1.size
          have H4 := Lib.hid (And.intro g1 g2)
          clear g1 g2 g3 g4
          have hpk := HS.out.spot p (List.mem_of_getElem? HM.out.2)
          unfold rgOk at hpk
          have HW1 := Lib.hid (fun W => within_any m.1 p.x.lo p.x.hi W)
          have HW2 := Lib.hid (fun W => within_any m.2 p.y.lo p.y.hi W)
          have HOF : Hid (okF y.s f i = (inB m.1 p.x.lo p.x.hi && inB m.2 p.y.lo p.y.hi && (decide (i = 0) || nearB y.s.strain (fnL f (i - 1)) m))) := Lib.hid (by unfold okF; rw [HM.out.1, HM.out.2])
          have HBAD := Lib.hid (show okF y.s f i = false → res = false from fun h => by
            rw [HRS.out]
            unfold proveB
            rw [all_range_bad hlt h]
            simp)
          have HGO := Lib.hid (show okF y.s f i = true → ∀ j, j < i + 1 → okF y.s f j = true from fun h j hj => by
            by_cases e : j = i
            · rw [e]; exact h
            · exact HJ.out.1 j (by omega))
          obtain ⟨v1, hv1⟩ : ∃ q, q = inB m.1 p.x.lo p.x.hi := ⟨_, rfl⟩
          obtain ⟨v2, hv2⟩ : ∃ q, q = inB m.2 p.y.lo p.y.hi := ⟨_, rfl⟩
          rw [← hv1] at HW1 HOF
          rw [← hv2] at HW2 HOF
          have HV := Lib.hid (And.intro hv1 hv2)
          clear hv1 hv2
          cases v1 with
          | false =>
            have HB := Lib.hid (HBAD.out (by rw [HOF.out]; rfl))
            refine wp_words (by kernel_rfl) (region_told_u 55 (by kernel_rfl) (by kernel_rfl) [false, false, false, false, false, false, false, false, false, false, false, true, true, true, true, true, true, true, true, true, true, false, false, true, true, true, true, true, true, true, true, true, true, true, true, true, true, true, true, true, true, true, true, true, true, true, true, true, true, true, true, true, true, true, true] (fun W => Below w4.heap.size w4 W) newer [vIs (.pointer (some ⟨mb, 0, none⟩)), vIs (vi m.1), vIs (.pointer (some ⟨pb, 0, none⟩)), vIs (.pointer (some ⟨pb, 0, none⟩)), vIs (vi p.x.lo), vIs (.pointer (some ⟨pb, 0, none⟩)), vIs (.pointer (some ⟨pb, 1, none⟩)), vIs (vi p.x.hi), vIs (.bool false), vIs (.bool true), vIs (.bool true), vIs (undef), vIs (undef), vIs (undef), vIs (undef), vIs (undef), vIs (undef), vIs (undef), vIs (undef), vIs (undef), vIs (undef), vIs (.bool true), vIs (.bool true), vIs (undef), vIs (undef), vIs (undef), vIs (undef), vIs (undef), vIs (undef), vIs (undef), vIs (undef), vIs (undef), vIs (undef), vIs (undef), vIs (undef), vIs (undef), vIs (undef), vIs (undef), vIs (undef), vIs (undef), vIs (undef), vIs (undef), vIs (undef), vIs (undef), vIs (undef), vIs (undef), vIs (undef), vIs (undef), vIs (undef), vIs (undef), vIs (undef), vIs (undef), vIs (undef), vIs (undef), vIs (undef)] ⟨rfl, rfl, rfl, rfl, rfl, rfl, rfl, rfl, rfl, rfl, rfl, (fun v W h => by obtain rfl : v = _ := h; simp), (fun v W h => by obtain rfl : v = _ := h; simp), (fun v W h => by obtain rfl : v = _ := h; simp), (fun v W h => by obtain rfl : v = _ := h; simp), (fun v W h => by obtain rfl : v = _ := h; simp), (fun v W h => by obtain rfl : v = _ := h; simp), (fun v W h => by obtain rfl : v = _ := h; simp), (fun v W h => by obtain rfl : v = _ := h; simp), (fun v W h => by obtain rfl : v = _ := h; simp), (fun v W h => by obtain rfl : v = _ := h; simp), rfl, rfl, (fun v W h => by obtain rfl : v = _ := h; simp), (fun v W h => by obtain rfl : v = _ := h; simp), (fun v W h => by obtain rfl : v = _ := h; simp), (fun v W h => by obtain rfl : v = _ := h; simp [undef]), (fun v W h => by obtain rfl : v = _ := h; simp [undef]), (fun v W h => by obtain rfl : v = _ := h; simp [undef]), (fun v W h => by obtain rfl : v = _ := h; simp [undef]), (fun v W h => by obtain rfl : v = _ := h; simp [undef]), (fun v W h => by obtain rfl : v = _ := h; simp [undef]), (fun v W h => by obtain rfl : v = _ := h; simp [undef]), (fun v W h => by obtain rfl : v = _ := h; simp [undef]), (fun v W h => by obtain rfl : v = _ := h; simp [undef]), (fun v W h => by obtain rfl : v = _ := h; simp [undef]), (fun v W h => by obtain rfl : v = _ := h; simp [undef]), (fun v W h => by obtain rfl : v = _ := h; simp [undef]), (fun v W h => by obtain rfl : v = _ := h; simp [undef]), (fun v W h => by obtain rfl : v = _ := h; simp [undef]), (fun v W h => by obtain rfl : v = _ := h; simp [undef]), (fun v W h => by obtain rfl : v = _ := h; simp [undef]), (fun v W h => by obtain rfl : v = _ := h; simp [undef]), (fun v W h => by obtain rfl : v = _ := h; simp [undef]), (fun v W h => by obtain rfl : v = _ := h; simp [undef]), (fun v W h => by obtain rfl : v = _ := h; simp [undef]), (fun v W h => by obtain rfl : v = _ := h; simp [undef]), (fun v W h => by obtain rfl : v = _ := h; simp [undef]), (fun v W h => by obtain rfl : v = _ := h; simp [undef]), (fun v W h => by obtain rfl : v = _ := h; simp [undef]), (fun v W h => by obtain rfl : v = _ := h; simp [undef]), (fun v W h => by obtain rfl : v = _ := h; simp [undef]), (fun v W h => by obtain rfl : v = _ := h; simp [undef]), (fun v W h => by obtain rfl : v = _ := h; simp [undef]), (fun v W h => by obtain rfl : v = _ := h; simp), trivial⟩ ⟨(fun h => Bool.noConfusion (show false = true from h)), (fun h => Bool.noConfusion (show false = true from h)), (fun h => Bool.noConfusion (show false = true from h)), (fun h => Bool.noConfusion (show false = true from h)), (fun h => Bool.noConfusion (show false = true from h)), (fun h => Bool.noConfusion (show false = true from h)), (fun h => Bool.noConfusion (show false = true from h)), (fun h => Bool.noConfusion (show false = true from h)), (fun h => Bool.noConfusion (show false = true from h)), (fun h => Bool.noConfusion (show false = true from h)), (fun h => Bool.noConfusion (show false = true from h)), (fun _ _ => rfl), (fun _ _ => rfl), (fun _ _ => rfl), (fun _ _ => rfl), (fun _ _ => rfl), (fun _ _ => rfl), (fun _ _ => rfl), (fun _ _ => rfl), (fun _ _ => rfl), (fun _ _ => rfl), (fun h => Bool.noConfusion (show false = true from h)), (fun h => Bool.noConfusion (show false = true from h)), (fun _ _ => rfl), (fun _ _ => rfl), (fun _ _ => rfl), (fun _ _ => rfl), (fun _ _ => rfl), (fun _ _ => rfl), (fun _ _ => rfl), (fun _ _ => rfl), (fun _ _ => rfl), (fun _ _ => rfl), (fun _ _ => rfl), (fun _ _ => rfl), (fun _ _ => rfl), (fun _ _ => rfl), (fun _ _ => rfl), (fun _ _ => rfl), (fun _ _ => rfl), (fun _ _ => rfl), (fun _ _ => rfl), (fun _ _ => rfl), (fun _ _ => rfl), (fun _ _ => rfl), (fun _ _ => rfl), (fun _ _ => rfl), (fun _ _ => rfl), (fun _ _ => rfl), (fun _ _ => rfl), (fun _ _ => rfl), (fun _ _ => rfl), (fun _ _ => rfl), (fun _ _ => rfl), (fun _ _ => rfl), trivial⟩ (fun h k => newer_trans h k) (pickD_stable _ ⟨vIs_st, vIs_st, vIs_st, vIs_st, vIs_st, vIs_st, vIs_st, vIs_st, vIs_st, vIs_st, vIs_st, vIs_st, vIs_st, vIs_st, vIs_st, vIs_st, vIs_st, vIs_st, vIs_st, vIs_st, vIs_st, vIs_st, vIs_st, vIs_st, vIs_st, vIs_st, vIs_st, vIs_st, vIs_st, vIs_st, vIs_st, vIs_st, vIs_st, vIs_st, vIs_st, vIs_st, vIs_st, vIs_st, vIs_st, vIs_st, vIs_st, vIs_st, vIs_st, vIs_st, vIs_st, vIs_st, vIs_st, vIs_st, vIs_st, vIs_st, vIs_st, vIs_st, vIs_st, vIs_st, vIs_st, trivial⟩) (Below.refl _ w4).drew (Below.refl _ _) ?_ ?_)
            · refine ⟨.inr ?_, .inr ?_, .inr ?_, .inr ?_, .inr ?_, .inr ?_, .inr ?_, .inr ?_, .inr ?_, .inr ?_, .inr ?_, .inl rfl, .inl rfl, .inl rfl, .inl rfl, .inl rfl, .inl rfl, .inl rfl, .inl rfl, .inl rfl, .inl rfl, .inr ?_, .inr ?_, .inl rfl, .inl rfl, .inl rfl, .inl rfl, .inl rfl, .inl rfl, .inl rfl, .inl rfl, .inl rfl, .inl rfl, .inl rfl, .inl rfl, .inl rfl, .inl rfl, .inl rfl, .inl rfl, .inl rfl, .inl rfl, .inl rfl, .inl rfl, .inl rfl, .inl rfl, .inl rfl, .inl rfl, .inl rfl, .inl rfl, .inl rfl, .inl rfl, .inl rfl, .inl rfl, .inl rfl, .inl rfl, trivial⟩
              · intro a W hG hR hO hp
                have h6 := hO.slot 6 (by kernel_rfl)
                refine kY (v := .pointer (some ⟨mb, 0, none⟩)) hG rfl ?_
                simp [slotOf] at h6
                simp [execOp, go_sem, h6]
              · intro a W hG hR hO hp
                have h33 : slotOf a 33 = .pointer (some ⟨mb, 0, none⟩) := hp.1
                have c0 := keep_cell m0 hG
                refine kY (v := vi m.1) hG rfl ?_
                simp [slotOf] at h33
                simp [execOp, go_sem, h33, c0]
              · intro a W hG hR hO hp
                have h7 := hO.slot 7 (by kernel_rfl)
                refine kY (v := .pointer (some ⟨pb, 0, none⟩)) hG rfl ?_
                simp [slotOf] at h7
                simp [execOp, go_sem, h7]
              · intro a W hG hR hO hp
                have h35 : slotOf a 35 = .pointer (some ⟨pb, 0, none⟩) := hp.1
                refine kY (v := .pointer (some ⟨pb, 0, none⟩)) hG rfl ?_
                simp [slotOf] at h35
                simp [execOp, go_sem, h35]
              · intro a W hG hR hO hp
                have h36 : slotOf a 36 = .pointer (some ⟨pb, 0, none⟩) := hp.1
                have c0 := keep_cell p0 hG
                refine kY (v := vi p.x.lo) hG rfl ?_
                simp [slotOf] at h36
                simp [execOp, go_sem, h36, c0]
              · intro a W hG hR hO hp
                have h7 := hO.slot 7 (by kernel_rfl)
                refine kY (v := .pointer (some ⟨pb, 0, none⟩)) hG rfl ?_
                simp [slotOf] at h7
                simp [execOp, go_sem, h7]
              · intro a W hG hR hO hp
                have h38 : slotOf a 38 = .pointer (some ⟨pb, 0, none⟩) := hp.1
                refine kY (v := .pointer (some ⟨pb, 1, none⟩)) hG rfl ?_
                simp [slotOf] at h38
                simp [execOp, go_sem, h38]
              · intro a W hG hR hO hp
                have h39 : slotOf a 39 = .pointer (some ⟨pb, 1, none⟩) := hp.1
                have c0 := keep_cell p1 hG
                refine kY (v := vi p.x.hi) hG rfl ?_
                simp [slotOf] at h39
                simp [execOp, go_sem, h39, c0]
              · intro a W hG hR hO hp
                have h34 : slotOf a 34 = vi m.1 := hp.1
                have h37 : slotOf a 37 = vi p.x.lo := hp.2.1
                have h40 : slotOf a 40 = vi p.x.hi := hp.2.2.1
                refine wp_enters (f := 74) (args := #[vi m.1, vi p.x.lo, vi p.x.hi]) ?_ ((HW1.out W).mono ?_)
                · simp [slotOf] at h34 h37 h40
                  simp [go_sem, h34, h37, h40]
                · rintro e w' ⟨rfl, rfl⟩
                  exact ⟨_, rfl, _, rfl, rfl, Below.refl _ _, hG⟩
              · intro a W hG hR hO hp
                have h41 : slotOf a 41 = .bool false := hp.1
                refine kY (v := .bool true) hG rfl ?_
                simp [slotOf] at h41
                simp [execOp, go_sem, h41]
              · exact fun a W hG _ _ hp => kM 42 rfl hp.1 rfl hG
              · intro a W hG hR hO hp
                have h43 : slotOf a 43 = .bool true := hp.1
                have h53 : slotOf a 53 = undef := hp.2.1
                refine kY (v := .bool true) hG rfl ?_
                simp [slotOf] at h43 h53
                simp [execOp, go_sem, h43, h53]
              · exact fun a W hG _ _ hp => kM 54 rfl hp.1 rfl hG
            · intro w5 hG hR
              rintro _ rfl _ rfl _ rfl _ rfl _ rfl _ rfl _ rfl _ rfl _ rfl _ rfl _ rfl _ rfl _ rfl _ rfl _ rfl _ rfl _ rfl _ rfl _ rfl _ rfl _ rfl _ rfl _ rfl _ rfl _ rfl _ rfl _ rfl _ rfl _ rfl _ rfl _ rfl _ rfl _ rfl _ rfl _ rfl _ rfl _ rfl _ rfl _ rfl _ rfl _ rfl _ rfl _ rfl _ rfl _ rfl _ rfl _ rfl _ rfl _ rfl _ rfl _ rfl _ rfl _ rfl _ rfl _ rfl
              change wpList _ _ _ _ _ _
              simp only [Act.put, List.setIfInBounds_toArray, List.set_cons_zero, List.set_cons_succ, List.drop_succ_cons, List.drop_zero]
              have HE4 := Lib.hid (newer_trans H4.out.1 hG)
              clear hG hR hfr m0 m1 p0 p1 p2 p3 x1
              go_wp2_with fail
              go_ret
              exact ⟨ret_bool HB.out.symm, HE4.out⟩
          | true =>
            cases v2 with
            | false =>
              have HB := Lib.hid (HBAD.out (by rw [HOF.out]; rfl))
              refine wp_words (by kernel_rfl) (region_told_u 55 (by kernel_rfl) (by kernel_rfl) [false, false, false, false, false, false, false, false, false, false, false, false, false, false, false, false, false, false, false, false, false, false, false, true, true, true, true, true, true, true, true, true, true, true, true, true, true, true, true, true, true, true, true, true, true, true, true, true, true, true, true, true, true, true, true] (fun W => Below w4.heap.size w4 W) newer [vIs (.pointer (some ⟨mb, 0, none⟩)), vIs (vi m.1), vIs (.pointer (some ⟨pb, 0, none⟩)), vIs (.pointer (some ⟨pb, 0, none⟩)), vIs (vi p.x.lo), vIs (.pointer (some ⟨pb, 0, none⟩)), vIs (.pointer (some ⟨pb, 1, none⟩)), vIs (vi p.x.hi), vIs (.bool true), vIs (.bool false), vIs (.bool false), vIs (.pointer (some ⟨mb, 1, none⟩)), vIs (vi m.2), vIs (.pointer (some ⟨pb, 2, none⟩)), vIs (.pointer (some ⟨pb, 2, none⟩)), vIs (vi p.y.lo), vIs (.pointer (some ⟨pb, 2, none⟩)), vIs (.pointer (some ⟨pb, 3, none⟩)), vIs (vi p.y.hi), vIs (.bool false), vIs (.bool true), vIs (.bool true), vIs (.bool true), vIs (undef), vIs (undef), vIs (undef), vIs (undef), vIs (undef), vIs (undef), vIs (undef), vIs (undef), vIs (undef), vIs (undef), vIs (undef), vIs (undef), vIs (undef), vIs (undef), vIs (undef), vIs (undef), vIs (undef), vIs (undef), vIs (undef), vIs (undef), vIs (undef), vIs (undef), vIs (undef), vIs (undef), vIs (undef), vIs (undef), vIs (undef), vIs (undef), vIs (undef), vIs (undef), vIs (undef), vIs (undef)] ⟨rfl, rfl, rfl, rfl, rfl, rfl, rfl, rfl, rfl, rfl, rfl, (fun v W h => by obtain rfl : v = _ := h; rfl), (fun v W h => by obtain rfl : v = _ := h; rfl), (fun v W h => by obtain rfl : v = _ := h; rfl), (fun v W h => by obtain rfl : v = _ := h; rfl), (fun v W h => by obtain rfl : v = _ := h; rfl), (fun v W h => by obtain rfl : v = _ := h; rfl), (fun v W h => by obtain rfl : v = _ := h; rfl), (fun v W h => by obtain rfl : v = _ := h; rfl), (fun v W h => by obtain rfl : v = _ := h; rfl), (fun v W h => by obtain rfl : v = _ := h; rfl), rfl, rfl, (fun v W h => by obtain rfl : v = _ := h; simp), (fun v W h => by obtain rfl : v = _ := h; simp), (fun v W h => by obtain rfl : v = _ := h; simp), (fun v W h => by obtain rfl : v = _ := h; simp [undef]), (fun v W h => by obtain rfl : v = _ := h; simp [undef]), (fun v W h => by obtain rfl : v = _ := h; simp [undef]), (fun v W h => by obtain rfl : v = _ := h; simp [undef]), (fun v W h => by obtain rfl : v = _ := h; simp [undef]), (fun v W h => by obtain rfl : v = _ := h; simp [undef]), (fun v W h => by obtain rfl : v = _ := h; simp [undef]), (fun v W h => by obtain rfl : v = _ := h; simp [undef]), (fun v W h => by obtain rfl : v = _ := h; simp [undef]), (fun v W h => by obtain rfl : v = _ := h; simp [undef]), (fun v W h => by obtain rfl : v = _ := h; simp [undef]), (fun v W h => by obtain rfl : v = _ := h; simp [undef]), (fun v W h => by obtain rfl : v = _ := h; simp [undef]), (fun v W h => by obtain rfl : v = _ := h; simp [undef]), (fun v W h => by obtain rfl : v = _ := h; simp [undef]), (fun v W h => by obtain rfl : v = _ := h; simp [undef]), (fun v W h => by obtain rfl : v = _ := h; simp [undef]), (fun v W h => by obtain rfl : v = _ := h; simp [undef]), (fun v W h => by obtain rfl : v = _ := h; simp [undef]), (fun v W h => by obtain rfl : v = _ := h; simp [undef]), (fun v W h => by obtain rfl : v = _ := h; simp [undef]), (fun v W h => by obtain rfl : v = _ := h; simp [undef]), (fun v W h => by obtain rfl : v = _ := h; simp [undef]), (fun v W h => by obtain rfl : v = _ := h; simp [undef]), (fun v W h => by obtain rfl : v = _ := h; simp [undef]), (fun v W h => by obtain rfl : v = _ := h; simp [undef]), (fun v W h => by obtain rfl : v = _ := h; simp [undef]), (fun v W h => by obtain rfl : v = _ := h; simp [undef]), (fun v W h => by obtain rfl : v = _ := h; simp), trivial⟩ ⟨(fun h => Bool.noConfusion (show false = true from h)), (fun h => Bool.noConfusion (show false = true from h)), (fun h => Bool.noConfusion (show false = true from h)), (fun h => Bool.noConfusion (show false = true from h)), (fun h => Bool.noConfusion (show false = true from h)), (fun h => Bool.noConfusion (show false = true from h)), (fun h => Bool.noConfusion (show false = true from h)), (fun h => Bool.noConfusion (show false = true from h)), (fun h => Bool.noConfusion (show false = true from h)), (fun h => Bool.noConfusion (show false = true from h)), (fun h => Bool.noConfusion (show false = true from h)), (fun h => Bool.noConfusion (show false = true from h)), (fun h => Bool.noConfusion (show false = true from h)), (fun h => Bool.noConfusion (show false = true from h)), (fun h => Bool.noConfusion (show false = true from h)), (fun h => Bool.noConfusion (show false = true from h)), (fun h => Bool.noConfusion (show false = true from h)), (fun h => Bool.noConfusion (show false = true from h)), (fun h => Bool.noConfusion (show false = true from h)), (fun h => Bool.noConfusion (show false = true from h)), (fun h => Bool.noConfusion (show false = true from h)), (fun h => Bool.noConfusion (show false = true from h)), (fun h => Bool.noConfusion (show false = true from h)), (fun _ _ => rfl), (fun _ _ => rfl), (fun _ _ => rfl), (fun _ _ => rfl), (fun _ _ => rfl), (fun _ _ => rfl), (fun _ _ => rfl), (fun _ _ => rfl), (fun _ _ => rfl), (fun _ _ => rfl), (fun _ _ => rfl), (fun _ _ => rfl), (fun _ _ => rfl), (fun _ _ => rfl), (fun _ _ => rfl), (fun _ _ => rfl), (fun _ _ => rfl), (fun _ _ => rfl), (fun _ _ => rfl), (fun _ _ => rfl), (fun _ _ => rfl), (fun _ _ => rfl), (fun _ _ => rfl), (fun _ _ => rfl), (fun _ _ => rfl), (fun _ _ => rfl), (fun _ _ => rfl), (fun _ _ => rfl), (fun _ _ => rfl), (fun _ _ => rfl), (fun _ _ => rfl), (fun _ _ => rfl), trivial⟩ (fun h k => newer_trans h k) (pickD_stable _ ⟨vIs_st, vIs_st, vIs_st, vIs_st, vIs_st, vIs_st, vIs_st, vIs_st, vIs_st, vIs_st, vIs_st, vIs_st, vIs_st, vIs_st, vIs_st, vIs_st, vIs_st, vIs_st, vIs_st, vIs_st, vIs_st, vIs_st, vIs_st, vIs_st, vIs_st, vIs_st, vIs_st, vIs_st, vIs_st, vIs_st, vIs_st, vIs_st, vIs_st, vIs_st, vIs_st, vIs_st, vIs_st, vIs_st, vIs_st, vIs_st, vIs_st, vIs_st, vIs_st, vIs_st, vIs_st, vIs_st, vIs_st, vIs_st, vIs_st, vIs_st, vIs_st, vIs_st, vIs_st, vIs_st, vIs_st, trivial⟩) (Below.refl _ w4).drew (Below.refl _ _) ?_ ?_)
              · refine ⟨.inr ?_, .inr ?_, .inr ?_, .inr ?_, .inr ?_, .inr ?_, .inr ?_, .inr ?_, .inr ?_, .inr ?_, .inr ?_, .inr ?_, .inr ?_, .inr ?_, .inr ?_, .inr ?_, .inr ?_, .inr ?_, .inr ?_, .inr ?_, .inr ?_, .inr ?_, .inr ?_, .inl rfl, .inl rfl, .inl rfl, .inl rfl, .inl rfl, .inl rfl, .inl rfl, .inl rfl, .inl rfl, .inl rfl, .inl rfl, .inl rfl, .inl rfl, .inl rfl, .inl rfl, .inl rfl, .inl rfl, .inl rfl, .inl rfl, .inl rfl, .inl rfl, .inl rfl, .inl rfl, .inl rfl, .inl rfl, .inl rfl, .inl rfl, .inl rfl, .inl rfl, .inl rfl, .inl rfl, .inl rfl, trivial⟩
                · intro a W hG hR hO hp
                  have h6 := hO.slot 6 (by kernel_rfl)
                  refine kY (v := .pointer (some ⟨mb, 0, none⟩)) hG rfl ?_
                  simp [slotOf] at h6
                  simp [execOp, go_sem, h6]
                · intro a W hG hR hO hp
                  have h33 : slotOf a 33 = .pointer (some ⟨mb, 0, none⟩) := hp.1
                  have c0 := keep_cell m0 hG
                  refine kY (v := vi m.1) hG rfl ?_
                  simp [slotOf] at h33
                  simp [execOp, go_sem, h33, c0]
                · intro a W hG hR hO hp
                  have h7 := hO.slot 7 (by kernel_rfl)
                  refine kY (v := .pointer (some ⟨pb, 0, none⟩)) hG rfl ?_
                  simp [slotOf] at h7
                  simp [execOp, go_sem, h7]
                · intro a W hG hR hO hp
                  have h35 : slotOf a 35 = .pointer (some ⟨pb, 0, none⟩) := hp.1
                  refine kY (v := .pointer (some ⟨pb, 0, none⟩)) hG rfl ?_
                  simp [slotOf] at h35
                  simp [execOp, go_sem, h35]
                · intro a W hG hR hO hp
                  have h36 : slotOf a 36 = .pointer (some ⟨pb, 0, none⟩) := hp.1
                  have c0 := keep_cell p0 hG
                  refine kY (v := vi p.x.lo) hG rfl ?_
                  simp [slotOf] at h36
                  simp [execOp, go_sem, h36, c0]
                · intro a W hG hR hO hp
                  have h7 := hO.slot 7 (by kernel_rfl)
                  refine kY (v := .pointer (some ⟨pb, 0, none⟩)) hG rfl ?_
                  simp [slotOf] at h7
                  simp [execOp, go_sem, h7]
                · intro a W hG hR hO hp
                  have h38 : slotOf a 38 = .pointer (some ⟨pb, 0, none⟩) := hp.1
                  refine kY (v := .pointer (some ⟨pb, 1, none⟩)) hG rfl ?_
                  simp [slotOf] at h38
                  simp [execOp, go_sem, h38]
                · intro a W hG hR hO hp
                  have h39 : slotOf a 39 = .pointer (some ⟨pb, 1, none⟩) := hp.1
                  have c0 := keep_cell p1 hG
                  refine kY (v := vi p.x.hi) hG rfl ?_
                  simp [slotOf] at h39
                  simp [execOp, go_sem, h39, c0]
                · intro a W hG hR hO hp
                  have h34 : slotOf a 34 = vi m.1 := hp.1
                  have h37 : slotOf a 37 = vi p.x.lo := hp.2.1
                  have h40 : slotOf a 40 = vi p.x.hi := hp.2.2.1
                  refine wp_enters (f := 74) (args := #[vi m.1, vi p.x.lo, vi p.x.hi]) ?_ ((HW1.out W).mono ?_)
                  · simp [slotOf] at h34 h37 h40
                    simp [go_sem, h34, h37, h40]
                  · rintro e w' ⟨rfl, rfl⟩
                    exact ⟨_, rfl, _, rfl, rfl, Below.refl _ _, hG⟩
                · intro a W hG hR hO hp
                  have h41 : slotOf a 41 = .bool true := hp.1
                  refine kY (v := .bool false) hG rfl ?_
                  simp [slotOf] at h41
                  simp [execOp, go_sem, h41]
                · exact fun a W hG _ _ hp => kM 42 rfl hp.1 rfl hG
                · intro a W hG hR hO hp
                  have h6 := hO.slot 6 (by kernel_rfl)
                  refine kY (v := .pointer (some ⟨mb, 1, none⟩)) hG rfl ?_
                  simp [slotOf] at h6
                  simp [execOp, go_sem, h6]
                · intro a W hG hR hO hp
                  have h44 : slotOf a 44 = .pointer (some ⟨mb, 1, none⟩) := hp.1
                  have c0 := keep_cell m1 hG
                  refine kY (v := vi m.2) hG rfl ?_
                  simp [slotOf] at h44
                  simp [execOp, go_sem, h44, c0]
                · intro a W hG hR hO hp
                  have h7 := hO.slot 7 (by kernel_rfl)
                  refine kY (v := .pointer (some ⟨pb, 2, none⟩)) hG rfl ?_
                  simp [slotOf] at h7
                  simp [execOp, go_sem, h7]
                · intro a W hG hR hO hp
                  have h46 : slotOf a 46 = .pointer (some ⟨pb, 2, none⟩) := hp.1
                  refine kY (v := .pointer (some ⟨pb, 2, none⟩)) hG rfl ?_
                  simp [slotOf] at h46
                  simp [execOp, go_sem, h46]
                · intro a W hG hR hO hp
                  have h47 : slotOf a 47 = .pointer (some ⟨pb, 2, none⟩) := hp.1
                  have c0 := keep_cell p2 hG
                  refine kY (v := vi p.y.lo) hG rfl ?_
                  simp [slotOf] at h47
                  simp [execOp, go_sem, h47, c0]
                · intro a W hG hR hO hp
                  have h7 := hO.slot 7 (by kernel_rfl)
                  refine kY (v := .pointer (some ⟨pb, 2, none⟩)) hG rfl ?_
                  simp [slotOf] at h7
                  simp [execOp, go_sem, h7]
                · intro a W hG hR hO hp
                  have h49 : slotOf a 49 = .pointer (some ⟨pb, 2, none⟩) := hp.1
                  refine kY (v := .pointer (some ⟨pb, 3, none⟩)) hG rfl ?_
                  simp [slotOf] at h49
                  simp [execOp, go_sem, h49]
                · intro a W hG hR hO hp
                  have h50 : slotOf a 50 = .pointer (some ⟨pb, 3, none⟩) := hp.1
                  have c0 := keep_cell p3 hG
                  refine kY (v := vi p.y.hi) hG rfl ?_
                  simp [slotOf] at h50
                  simp [execOp, go_sem, h50, c0]
                · intro a W hG hR hO hp
                  have h45 : slotOf a 45 = vi m.2 := hp.1
                  have h48 : slotOf a 48 = vi p.y.lo := hp.2.1
                  have h51 : slotOf a 51 = vi p.y.hi := hp.2.2.1
                  refine wp_enters (f := 74) (args := #[vi m.2, vi p.y.lo, vi p.y.hi]) ?_ ((HW2.out W).mono ?_)
                  · simp [slotOf] at h45 h48 h51
                    simp [go_sem, h45, h48, h51]
                  · rintro e w' ⟨rfl, rfl⟩
                    exact ⟨_, rfl, _, rfl, rfl, Below.refl _ _, hG⟩
                · intro a W hG hR hO hp
                  have h52 : slotOf a 52 = .bool false := hp.1
                  refine kY (v := .bool true) hG rfl ?_
                  simp [slotOf] at h52
                  simp [execOp, go_sem, h52]
                · intro a W hG hR hO hp
                  have h43 : slotOf a 43 = .bool false := hp.1
                  have h53 : slotOf a 53 = .bool true := hp.2.1
                  refine kY (v := .bool true) hG rfl ?_
                  simp [slotOf] at h43 h53
                  simp [execOp, go_sem, h43, h53]
                · exact fun a W hG _ _ hp => kM 54 rfl hp.1 rfl hG
              · intro w5 hG hR
                rintro _ rfl _ rfl _ rfl _ rfl _ rfl _ rfl _ rfl _ rfl _ rfl _ rfl _ rfl _ rfl _ rfl _ rfl _ rfl _ rfl _ rfl _ rfl _ rfl _ rfl _ rfl _ rfl _ rfl _ rfl _ rfl _ rfl _ rfl _ rfl _ rfl _ rfl _ rfl _ rfl _ rfl _ rfl _ rfl _ rfl _ rfl _ rfl _ rfl _ rfl _ rfl _ rfl _ rfl _ rfl _ rfl _ rfl _ rfl _ rfl _ rfl _ rfl _ rfl _ rfl _ rfl _ rfl _ rfl
                change wpList _ _ _ _ _ _
                simp only [Act.put, List.setIfInBounds_toArray, List.set_cons_zero, List.set_cons_succ, List.drop_succ_cons, List.drop_zero]
                have HE4 := Lib.hid (newer_trans H4.out.1 hG)
                clear hG hR hfr m0 m1 p0 p1 p2 p3 x1
                go_wp2_with fail
                go_ret
                exact ⟨ret_bool HB.out.symm, HE4.out⟩
            | true =>
              by_cases hi0' : i = 0
              case pos =>
                have hi0 : i = 0 := hi0'
                have HG2 := Lib.hid (HGO.out (by rw [HOF.out]; simp [hi0']))
                clear hi0'
                refine wp_words (by kernel_rfl) (region_told_u 55 (by kernel_rfl) (by kernel_rfl) [false, false, false, false, false, false, false, false, false, false, false, false, false, false, false, false, false, false, false, false, false, false, false, false, false, false, true, true, true, true, true, true, true, true, true, true, true, true, true, true, true, true, true, true, true, true, true, true, true, true, true, true, true, true, false] (fun W => Below w4.heap.size w4 W) newer [vIs (.pointer (some ⟨mb, 0, none⟩)), vIs (vi m.1), vIs (.pointer (some ⟨pb, 0, none⟩)), vIs (.pointer (some ⟨pb, 0, none⟩)), vIs (vi p.x.lo), vIs (.pointer (some ⟨pb, 0, none⟩)), vIs (.pointer (some ⟨pb, 1, none⟩)), vIs (vi p.x.hi), vIs (.bool true), vIs (.bool false), vIs (.bool false), vIs (.pointer (some ⟨mb, 1, none⟩)), vIs (vi m.2), vIs (.pointer (some ⟨pb, 2, none⟩)), vIs (.pointer (some ⟨pb, 2, none⟩)), vIs (vi p.y.lo), vIs (.pointer (some ⟨pb, 2, none⟩)), vIs (.pointer (some ⟨pb, 3, none⟩)), vIs (vi p.y.hi), vIs (.bool true), vIs (.bool false), vIs (.bool false), vIs (.bool false), vIs (.int .i64 i), vIs (.bool false), vIs (.bool false), vIs (undef), vIs (undef), vIs (undef), vIs (undef), vIs (undef), vIs (undef), vIs (undef), vIs (undef), vIs (undef), vIs (undef), vIs (undef), vIs (undef), vIs (undef), vIs (undef), vIs (undef), vIs (undef), vIs (undef), vIs (undef), vIs (undef), vIs (undef), vIs (undef), vIs (undef), vIs (undef), vIs (undef), vIs (undef), vIs (undef), vIs (undef), vIs (undef), vIs (.bool false)] ⟨rfl, rfl, rfl, rfl, rfl, rfl, rfl, rfl, rfl, rfl, rfl, (fun v W h => by obtain rfl : v = _ := h; rfl), (fun v W h => by obtain rfl : v = _ := h; rfl), (fun v W h => by obtain rfl : v = _ := h; rfl), (fun v W h => by obtain rfl : v = _ := h; rfl), (fun v W h => by obtain rfl : v = _ := h; rfl), (fun v W h => by obtain rfl : v = _ := h; rfl), (fun v W h => by obtain rfl : v = _ := h; rfl), (fun v W h => by obtain rfl : v = _ := h; rfl), (fun v W h => by obtain rfl : v = _ := h; rfl), (fun v W h => by obtain rfl : v = _ := h; rfl), rfl, rfl, (fun v W h => by obtain rfl : v = _ := h; rfl), (fun v W h => by obtain rfl : v = _ := h; rfl), (fun v W h => by obtain rfl : v = _ := h; rfl), (fun v W h => by obtain rfl : v = _ := h; simp), (fun v W h => by obtain rfl : v = _ := h; simp), (fun v W h => by obtain rfl : v = _ := h; simp), (fun v W h => by obtain rfl : v = _ := h; simp), (fun v W h => by obtain rfl : v = _ := h; simp), (fun v W h => by obtain rfl : v = _ := h; simp), (fun v W h => by obtain rfl : v = _ := h; simp), (fun v W h => by obtain rfl : v = _ := h; simp), (fun v W h => by obtain rfl : v = _ := h; simp), (fun v W h => by obtain rfl : v = _ := h; simp), (fun v W h => by obtain rfl : v = _ := h; simp), (fun v W h => by obtain rfl : v = _ := h; simp), (fun v W h => by obtain rfl : v = _ := h; simp), (fun v W h => by obtain rfl : v = _ := h; simp), (fun v W h => by obtain rfl : v = _ := h; simp [undef]), (fun v W h => by obtain rfl : v = _ := h; simp [undef]), (fun v W h => by obtain rfl : v = _ := h; simp [undef]), (fun v W h => by obtain rfl : v = _ := h; simp [undef]), (fun v W h => by obtain rfl : v = _ := h; simp [undef]), (fun v W h => by obtain rfl : v = _ := h; simp [undef]), (fun v W h => by obtain rfl : v = _ := h; simp [undef]), (fun v W h => by obtain rfl : v = _ := h; simp [undef]), (fun v W h => by obtain rfl : v = _ := h; simp [undef]), (fun v W h => by obtain rfl : v = _ := h; simp [undef]), (fun v W h => by obtain rfl : v = _ := h; simp [undef]), (fun v W h => by obtain rfl : v = _ := h; simp [undef]), (fun v W h => by obtain rfl : v = _ := h; simp [undef]), (fun v W h => by obtain rfl : v = _ := h; simp), (fun v W h => by obtain rfl : v = _ := h; rfl), trivial⟩ ⟨(fun h => Bool.noConfusion (show false = true from h)), (fun h => Bool.noConfusion (show false = true from h)), (fun h => Bool.noConfusion (show false = true from h)), (fun h => Bool.noConfusion (show false = true from h)), (fun h => Bool.noConfusion (show false = true from h)), (fun h => Bool.noConfusion (show false = true from h)), (fun h => Bool.noConfusion (show false = true from h)), (fun h => Bool.noConfusion (show false = true from h)), (fun h => Bool.noConfusion (show false = true from h)), (fun h => Bool.noConfusion (show false = true from h)), (fun h => Bool.noConfusion (show false = true from h)), (fun h => Bool.noConfusion (show false = true from h)), (fun h => Bool.noConfusion (show false = true from h)), (fun h => Bool.noConfusion (show false = true from h)), (fun h => Bool.noConfusion (show false = true from h)), (fun h => Bool.noConfusion (show false = true from h)), (fun h => Bool.noConfusion (show false = true from h)), (fun h => Bool.noConfusion (show false = true from h)), (fun h => Bool.noConfusion (show false = true from h)), (fun h => Bool.noConfusion (show false = true from h)), (fun h => Bool.noConfusion (show false = true from h)), (fun h => Bool.noConfusion (show false = true from h)), (fun h => Bool.noConfusion (show false = true from h)), (fun h => Bool.noConfusion (show false = true from h)), (fun h => Bool.noConfusion (show false = true from h)), (fun h => Bool.noConfusion (show false = true from h)), (fun _ _ => rfl), (fun _ _ => rfl), (fun _ _ => rfl), (fun _ _ => rfl), (fun _ _ => rfl), (fun _ _ => rfl), (fun _ _ => rfl), (fun _ _ => rfl), (fun _ _ => rfl), (fun _ _ => rfl), (fun _ _ => rfl), (fun _ _ => rfl), (fun _ _ => rfl), (fun _ _ => rfl), (fun _ _ => rfl), (fun _ _ => rfl), (fun _ _ => rfl), (fun _ _ => rfl), (fun _ _ => rfl), (fun _ _ => rfl), (fun _ _ => rfl), (fun _ _ => rfl), (fun _ _ => rfl), (fun _ _ => rfl), (fun _ _ => rfl), (fun _ _ => rfl), (fun _ _ => rfl), (fun _ _ => rfl), (fun h => Bool.noConfusion (show false = true from h)), trivial⟩ (fun h k => newer_trans h k) (pickD_stable _ ⟨vIs_st, vIs_st, vIs_st, vIs_st, vIs_st, vIs_st, vIs_st, vIs_st, vIs_st, vIs_st, vIs_st, vIs_st, vIs_st, vIs_st, vIs_st, vIs_st, vIs_st, vIs_st, vIs_st, vIs_st, vIs_st, vIs_st, vIs_st, vIs_st, vIs_st, vIs_st, vIs_st, vIs_st, vIs_st, vIs_st, vIs_st, vIs_st, vIs_st, vIs_st, vIs_st, vIs_st, vIs_st, vIs_st, vIs_st, vIs_st, vIs_st, vIs_st, vIs_st, vIs_st, vIs_st, vIs_st, vIs_st, vIs_st, vIs_st, vIs_st, vIs_st, vIs_st, vIs_st, vIs_st, vIs_st, trivial⟩) (Below.refl _ w4).drew (Below.refl _ _) ?_ ?_)
                · refine ⟨.inr ?_, .inr ?_, .inr ?_, .inr ?_, .inr ?_, .inr ?_, .inr ?_, .inr ?_, .inr ?_, .inr ?_, .inr ?_, .inr ?_, .inr ?_, .inr ?_, .inr ?_, .inr ?_, .inr ?_, .inr ?_, .inr ?_, .inr ?_, .inr ?_, .inr ?_, .inr ?_, .inr ?_, .inr ?_, .inr ?_, .inl rfl, .inl rfl, .inl rfl, .inl rfl, .inl rfl, .inl rfl, .inl rfl, .inl rfl, .inl rfl, .inl rfl, .inl rfl, .inl rfl, .inl rfl, .inl rfl, .inl rfl, .inl rfl, .inl rfl, .inl rfl, .inl rfl, .inl rfl, .inl rfl, .inl rfl, .inl rfl, .inl rfl, .inl rfl, .inl rfl, .inl rfl, .inl rfl, .inr ?_, trivial⟩
                  · intro a W hG hR hO hp
                    have h6 := hO.slot 6 (by kernel_rfl)
                    refine kY (v := .pointer (some ⟨mb, 0, none⟩)) hG rfl ?_
                    simp [slotOf] at h6
                    simp [execOp, go_sem, h6]
                  · intro a W hG hR hO hp
                    have h33 : slotOf a 33 = .pointer (some ⟨mb, 0, none⟩) := hp.1
                    have c0 := keep_cell m0 hG
                    refine kY (v := vi m.1) hG rfl ?_
                    simp [slotOf] at h33
                    simp [execOp, go_sem, h33, c0]
                  · intro a W hG hR hO hp
                    have h7 := hO.slot 7 (by kernel_rfl)
                    refine kY (v := .pointer (some ⟨pb, 0, none⟩)) hG rfl ?_
                    simp [slotOf] at h7
                    simp [execOp, go_sem, h7]
                  · intro a W hG hR hO hp
                    have h35 : slotOf a 35 = .pointer (some ⟨pb, 0, none⟩) := hp.1
                    refine kY (v := .pointer (some ⟨pb, 0, none⟩)) hG rfl ?_
                    simp [slotOf] at h35
                    simp [execOp, go_sem, h35]
                  · intro a W hG hR hO hp
                    have h36 : slotOf a 36 = .pointer (some ⟨pb, 0, none⟩) := hp.1
                    have c0 := keep_cell p0 hG
                    refine kY (v := vi p.x.lo) hG rfl ?_
                    simp [slotOf] at h36
                    simp [execOp, go_sem, h36, c0]
                  · intro a W hG hR hO hp
                    have h7 := hO.slot 7 (by kernel_rfl)
                    refine kY (v := .pointer (some ⟨pb, 0, none⟩)) hG rfl ?_
                    simp [slotOf] at h7
                    simp [execOp, go_sem, h7]
                  · intro a W hG hR hO hp
                    have h38 : slotOf a 38 = .pointer (some ⟨pb, 0, none⟩) := hp.1
                    refine kY (v := .pointer (some ⟨pb, 1, none⟩)) hG rfl ?_
                    simp [slotOf] at h38
                    simp [execOp, go_sem, h38]
                  · intro a W hG hR hO hp
                    have h39 : slotOf a 39 = .pointer (some ⟨pb, 1, none⟩) := hp.1
                    have c0 := keep_cell p1 hG
                    refine kY (v := vi p.x.hi) hG rfl ?_
                    simp [slotOf] at h39
                    simp [execOp, go_sem, h39, c0]
                  · intro a W hG hR hO hp
                    have h34 : slotOf a 34 = vi m.1 := hp.1
                    have h37 : slotOf a 37 = vi p.x.lo := hp.2.1
                    have h40 : slotOf a 40 = vi p.x.hi := hp.2.2.1
                    refine wp_enters (f := 74) (args := #[vi m.1, vi p.x.lo, vi p.x.hi]) ?_ ((HW1.out W).mono ?_)
                    · simp [slotOf] at h34 h37 h40
                      simp [go_sem, h34, h37, h40]
                    · rintro e w' ⟨rfl, rfl⟩
                      exact ⟨_, rfl, _, rfl, rfl, Below.refl _ _, hG⟩
                  · intro a W hG hR hO hp
                    have h41 : slotOf a 41 = .bool true := hp.1
                    refine kY (v := .bool false) hG rfl ?_
                    simp [slotOf] at h41
                    simp [execOp, go_sem, h41]
                  · exact fun a W hG _ _ hp => kM 42 rfl hp.1 rfl hG
                  · intro a W hG hR hO hp
                    have h6 := hO.slot 6 (by kernel_rfl)
                    refine kY (v := .pointer (some ⟨mb, 1, none⟩)) hG rfl ?_
                    simp [slotOf] at h6
                    simp [execOp, go_sem, h6]
                  · intro a W hG hR hO hp
                    have h44 : slotOf a 44 = .pointer (some ⟨mb, 1, none⟩) := hp.1
                    have c0 := keep_cell m1 hG
                    refine kY (v := vi m.2) hG rfl ?_
                    simp [slotOf] at h44
                    simp [execOp, go_sem, h44, c0]
                  · intro a W hG hR hO hp
                    have h7 := hO.slot 7 (by kernel_rfl)
                    refine kY (v := .pointer (some ⟨pb, 2, none⟩)) hG rfl ?_
                    simp [slotOf] at h7
                    simp [execOp, go_sem, h7]
                  · intro a W hG hR hO hp
                    have h46 : slotOf a 46 = .pointer (some ⟨pb, 2, none⟩) := hp.1
                    refine kY (v := .pointer (some ⟨pb, 2, none⟩)) hG rfl ?_
                    simp [slotOf] at h46
                    simp [execOp, go_sem, h46]
                  · intro a W hG hR hO hp
                    have h47 : slotOf a 47 = .pointer (some ⟨pb, 2, none⟩) := hp.1
                    have c0 := keep_cell p2 hG
                    refine kY (v := vi p.y.lo) hG rfl ?_
                    simp [slotOf] at h47
                    simp [execOp, go_sem, h47, c0]
                  · intro a W hG hR hO hp
                    have h7 := hO.slot 7 (by kernel_rfl)
                    refine kY (v := .pointer (some ⟨pb, 2, none⟩)) hG rfl ?_
                    simp [slotOf] at h7
                    simp [execOp, go_sem, h7]
                  · intro a W hG hR hO hp
                    have h49 : slotOf a 49 = .pointer (some ⟨pb, 2, none⟩) := hp.1
                    refine kY (v := .pointer (some ⟨pb, 3, none⟩)) hG rfl ?_
                    simp [slotOf] at h49
                    simp [execOp, go_sem, h49]
                  · intro a W hG hR hO hp
                    have h50 : slotOf a 50 = .pointer (some ⟨pb, 3, none⟩) := hp.1
                    have c0 := keep_cell p3 hG
                    refine kY (v := vi p.y.hi) hG rfl ?_
                    simp [slotOf] at h50
                    simp [execOp, go_sem, h50, c0]
                  · intro a W hG hR hO hp
                    have h45 : slotOf a 45 = vi m.2 := hp.1
                    have h48 : slotOf a 48 = vi p.y.lo := hp.2.1
                    have h51 : slotOf a 51 = vi p.y.hi := hp.2.2.1
                    refine wp_enters (f := 74) (args := #[vi m.2, vi p.y.lo, vi p.y.hi]) ?_ ((HW2.out W).mono ?_)
                    · simp [slotOf] at h45 h48 h51
                      simp [go_sem, h45, h48, h51]
                    · rintro e w' ⟨rfl, rfl⟩
                      exact ⟨_, rfl, _, rfl, rfl, Below.refl _ _, hG⟩
                  · intro a W hG hR hO hp
                    have h52 : slotOf a 52 = .bool true := hp.1
                    refine kY (v := .bool false) hG rfl ?_
                    simp [slotOf] at h52
                    simp [execOp, go_sem, h52]
                  · intro a W hG hR hO hp
                    have h43 : slotOf a 43 = .bool false := hp.1
                    have h53 : slotOf a 53 = .bool false := hp.2.1
                    refine kY (v := .bool false) hG rfl ?_
                    simp [slotOf] at h43 h53
                    simp [execOp, go_sem, h43, h53]
                  · exact fun a W hG _ _ hp => kM 54 rfl hp.1 rfl hG
                  · exact fun a W hG _ hO _ => kM 5 rfl (hO.slot 5 (by kernel_rfl)) rfl hG
                  · intro a W hG hR hO hp
                    have h56 : slotOf a 56 = .int .i64 i := hp.1
                    refine kY (v := .bool false) hG rfl ?_
                    simp [slotOf] at h56
                    simp [execOp, go_sem, h56, hi0]
                  · exact fun a W hG _ _ hp => kM 57 rfl hp.1 rfl hG
                  · intro a W hG hR hO hp
                    have h58 : slotOf a 58 = .bool false := hp.1
                    have h86 : slotOf a 86 = undef := hp.2.1
                    refine kY (v := .bool false) hG rfl ?_
                    simp [slotOf] at h58 h86
                    simp [execOp, go_sem, h58, h86]
                · intro w5 hG hR
                  rintro _ rfl _ rfl _ rfl _ rfl _ rfl _ rfl _ rfl _ rfl _ rfl _ rfl _ rfl _ rfl _ rfl _ rfl _ rfl _ rfl _ rfl _ rfl _ rfl _ rfl _ rfl _ rfl _ rfl _ rfl _ rfl _ rfl _ rfl _ rfl _ rfl _ rfl _ rfl _ rfl _ rfl _ rfl _ rfl _ rfl _ rfl _ rfl _ rfl _ rfl _ rfl _ rfl _ rfl _ rfl _ rfl _ rfl _ rfl _ rfl _ rfl _ rfl _ rfl _ rfl _ rfl _ rfl _ rfl
                  change wpList _ _ _ _ _ _
                  simp only [Act.put, List.setIfInBounds_toArray, List.set_cons_zero, List.set_cons_succ, List.drop_succ_cons, List.drop_zero]
                  have HE4 := Lib.hid (show newer w w5 ∧ Whole w5 w.heap.size 40 (smC y) from ⟨newer_trans H4.out.1 hG, H4.out.2.below hG H4.out.2.lt⟩)
                  clear hG hR hfr m0 m1 p0 p1 p2 p3 x1 hi0
                  go_wp2_with fail
                  go_roundw
                  case rel => exact ⟨i + 1, by omega, by go_num, HG2.out, HE4.out.1, HE4.out.2⟩
                  case measure => simp [intOf]; omega
              case neg =>
                have hi0 : 0 < i := by omega
                obtain ⟨j, hj⟩ : ∃ j, i = j + 1 := ⟨i - 1, by omega⟩
                have hij : IntKind.i64.wrap ((i : Int) - 1) = (j : Int) := by rw [show (i : Int) - 1 = j by omega]; exact IntWalk.i64_in _ (by omega)
                have hjf : (j : Int) < f.length := by omega
                obtain ⟨o, ho⟩ : ∃ o, f[j]? = some o := ⟨_, List.getElem?_eq_getElem (by omega)⟩
                obtain ⟨o0, o1⟩ := mv_at hfr ho
                have hoj : okF y.s f j = true := HJ.out.1 j (by omega)
                have hob : (-30 ≤ o.1 ∧ o.1 ≤ 30) ∧ -30 ≤ o.2 ∧ o.2 ≤ 30 := by
                  obtain ⟨p', hp'⟩ : ∃ p, y.s.spots[j]? = some p := ⟨_, List.getElem?_eq_getElem (by have := HLE.out; omega)⟩
                  have hpk' := HS.out.spot p' (List.mem_of_getElem? hp')
                  unfold okF at hoj
                  rw [ho, hp'] at hoj
                  simp only [inB, Bool.and_eq_true, decide_eq_true_eq] at hoj
                  unfold rgOk at hpk'
                  omega
                have hmb : (-30 ≤ m.1 ∧ m.1 ≤ 30) ∧ -30 ≤ m.2 ∧ m.2 ≤ 30 := by
                  have h1 := HV.out
                  simp only [inB, Bool.true_eq, Bool.and_eq_true, decide_eq_true_eq] at h1
                  omega
                have hwx : IntKind.i64.wrap (m.1 - o.1) = m.1 - o.1 := IntWalk.i64_in _ (by omega)
                have hwy : IntKind.i64.wrap (m.2 - o.2) = m.2 - o.2 := IntWalk.i64_in _ (by omega)
                have HA1 := Lib.hid (fun W => amount_any (m.1 - o.1) W (by omega))
                have HA2 := Lib.hid (fun W => amount_any (m.2 - o.2) W (by omega))
                obtain ⟨ax, hax⟩ : ∃ q, q = amt (m.1 - o.1) := ⟨_, rfl⟩
                obtain ⟨ay, hay⟩ : ∃ q, q = amt (m.2 - o.2) := ⟨_, rfl⟩
                rw [← hax] at HA1
                rw [← hay] at HA2
                have HNE : Hid (okF y.s f i = (decide (ax ≤ y.s.strain) && decide (ay ≤ y.s.strain))) := Lib.hid (by
                  rw [HOF.out, show i - 1 = j by omega, fnL_at ho, near_symm, hax, hay]
                  have e : decide (i = 0) = false := decide_eq_false (by omega)
                  rw [e]
                  rfl)
                clear hi0' hj ho hoj hob hmb hax hay
                by_cases hqx' : ax ≤ y.s.strain
                case neg =>
                  have hqx : y.s.strain < ax := by omega
                  have HB := Lib.hid (HBAD.out (by rw [HNE.out]; simp [hqx']))
                  clear hqx'
                  refine wp_words (by kernel_rfl) (region_told_u 55 (by kernel_rfl) (by kernel_rfl) [false, false, false, false, false, false, false, false, false, false, false, false, false, false, false, false, false, false, false, false, false, false, false, false, false, false, false, false, false, false, false, false, false, false, false, false, false, false, false, false, true, true, true, true, true, true, true, true, true, true, true, true, true, false, false] (fun W => Below w4.heap.size w4 W) newer [vIs (.pointer (some ⟨mb, 0, none⟩)), vIs (vi m.1), vIs (.pointer (some ⟨pb, 0, none⟩)), vIs (.pointer (some ⟨pb, 0, none⟩)), vIs (vi p.x.lo), vIs (.pointer (some ⟨pb, 0, none⟩)), vIs (.pointer (some ⟨pb, 1, none⟩)), vIs (vi p.x.hi), vIs (.bool true), vIs (.bool false), vIs (.bool false), vIs (.pointer (some ⟨mb, 1, none⟩)), vIs (vi m.2), vIs (.pointer (some ⟨pb, 2, none⟩)), vIs (.pointer (some ⟨pb, 2, none⟩)), vIs (vi p.y.lo), vIs (.pointer (some ⟨pb, 2, none⟩)), vIs (.pointer (some ⟨pb, 3, none⟩)), vIs (vi p.y.hi), vIs (.bool true), vIs (.bool false), vIs (.bool false), vIs (.bool false), vIs (.int .i64 i), vIs (.bool true), vIs (.bool true), vIs (.pointer (some ⟨mb, 0, none⟩)), vIs (vi m.1), vIs (.slice (some ⟨fb, fo, none⟩) f.length fc), vIs (.int .i64 i), vIs (.int .i64 j), vIs (.pointer (some ⟨fb, fo + j * 2, none⟩)), vIs (.pointer (some ⟨fb, fo + j * 2, none⟩)), vIs (vi o.1), vIs (vi (m.1 - o.1)), vIs (vi ax), vIs (.pointer (some ⟨w.heap.size, 1, none⟩)), vIs (vi y.s.strain), vIs (.bool true), vIs (.bool true), vIs (undef), vIs (undef), vIs (undef), vIs (undef), vIs (undef), vIs (undef), vIs (undef), vIs (undef), vIs (undef), vIs (undef), vIs (undef), vIs (undef), vIs (undef), vIs (.bool true), vIs (.bool true)] ⟨rfl, rfl, rfl, rfl, rfl, rfl, rfl, rfl, rfl, rfl, rfl, (fun v W h => by obtain rfl : v = _ := h; rfl), (fun v W h => by obtain rfl : v = _ := h; rfl), (fun v W h => by obtain rfl : v = _ := h; rfl), (fun v W h => by obtain rfl : v = _ := h; rfl), (fun v W h => by obtain rfl : v = _ := h; rfl), (fun v W h => by obtain rfl : v = _ := h; rfl), (fun v W h => by obtain rfl : v = _ := h; rfl), (fun v W h => by obtain rfl : v = _ := h; rfl), (fun v W h => by obtain rfl : v = _ := h; rfl), (fun v W h => by obtain rfl : v = _ := h; rfl), rfl, rfl, (fun v W h => by obtain rfl : v = _ := h; rfl), (fun v W h => by obtain rfl : v = _ := h; rfl), (fun v W h => by obtain rfl : v = _ := h; rfl), (fun v W h => by obtain rfl : v = _ := h; rfl), (fun v W h => by obtain rfl : v = _ := h; rfl), (fun v W h => by obtain rfl : v = _ := h; rfl), (fun v W h => by obtain rfl : v = _ := h; rfl), (fun v W h => by obtain rfl : v = _ := h; rfl), (fun v W h => by obtain rfl : v = _ := h; rfl), (fun v W h => by obtain rfl : v = _ := h; rfl), (fun v W h => by obtain rfl : v = _ := h; rfl), (fun v W h => by obtain rfl : v = _ := h; rfl), (fun v W h => by obtain rfl : v = _ := h; rfl), (fun v W h => by obtain rfl : v = _ := h; rfl), (fun v W h => by obtain rfl : v = _ := h; rfl), (fun v W h => by obtain rfl : v = _ := h; rfl), (fun v W h => by obtain rfl : v = _ := h; rfl), (fun v W h => by obtain rfl : v = _ := h; simp), (fun v W h => by obtain rfl : v = _ := h; simp), (fun v W h => by obtain rfl : v = _ := h; simp), (fun v W h => by obtain rfl : v = _ := h; simp), (fun v W h => by obtain rfl : v = _ := h; simp), (fun v W h => by obtain rfl : v = _ := h; simp), (fun v W h => by obtain rfl : v = _ := h; simp), (fun v W h => by obtain rfl : v = _ := h; simp), (fun v W h => by obtain rfl : v = _ := h; simp), (fun v W h => by obtain rfl : v = _ := h; simp), (fun v W h => by obtain rfl : v = _ := h; simp), (fun v W h => by obtain rfl : v = _ := h; simp), (fun v W h => by obtain rfl : v = _ := h; simp), (fun v W h => by obtain rfl : v = _ := h; rfl), (fun v W h => by obtain rfl : v = _ := h; rfl), trivial⟩ ⟨(fun h => Bool.noConfusion (show false = true from h)), (fun h => Bool.noConfusion (show false = true from h)), (fun h => Bool.noConfusion (show false = true from h)), (fun h => Bool.noConfusion (show false = true from h)), (fun h => Bool.noConfusion (show false = true from h)), (fun h => Bool.noConfusion (show false = true from h)), (fun h => Bool.noConfusion (show false = true from h)), (fun h => Bool.noConfusion (show false = true from h)), (fun h => Bool.noConfusion (show false = true from h)), (fun h => Bool.noConfusion (show false = true from h)), (fun h => Bool.noConfusion (show false = true from h)), (fun h => Bool.noConfusion (show false = true from h)), (fun h => Bool.noConfusion (show false = true from h)), (fun h => Bool.noConfusion (show false = true from h)), (fun h => Bool.noConfusion (show false = true from h)), (fun h => Bool.noConfusion (show false = true from h)), (fun h => Bool.noConfusion (show false = true from h)), (fun h => Bool.noConfusion (show false = true from h)), (fun h => Bool.noConfusion (show false = true from h)), (fun h => Bool.noConfusion (show false = true from h)), (fun h => Bool.noConfusion (show false = true from h)), (fun h => Bool.noConfusion (show false = true from h)), (fun h => Bool.noConfusion (show false = true from h)), (fun h => Bool.noConfusion (show false = true from h)), (fun h => Bool.noConfusion (show false = true from h)), (fun h => Bool.noConfusion (show false = true from h)), (fun h => Bool.noConfusion (show false = true from h)), (fun h => Bool.noConfusion (show false = true from h)), (fun h => Bool.noConfusion (show false = true from h)), (fun h => Bool.noConfusion (show false = true from h)), (fun h => Bool.noConfusion (show false = true from h)), (fun h => Bool.noConfusion (show false = true from h)), (fun h => Bool.noConfusion (show false = true from h)), (fun h => Bool.noConfusion (show false = true from h)), (fun h => Bool.noConfusion (show false = true from h)), (fun h => Bool.noConfusion (show false = true from h)), (fun h => Bool.noConfusion (show false = true from h)), (fun h => Bool.noConfusion (show false = true from h)), (fun h => Bool.noConfusion (show false = true from h)), (fun h => Bool.noConfusion (show false = true from h)), (fun _ _ => rfl), (fun _ _ => rfl), (fun _ _ => rfl), (fun _ _ => rfl), (fun _ _ => rfl), (fun _ _ => rfl), (fun _ _ => rfl), (fun _ _ => rfl), (fun _ _ => rfl), (fun _ _ => rfl), (fun _ _ => rfl), (fun _ _ => rfl), (fun _ _ => rfl), (fun h => Bool.noConfusion (show false = true from h)), (fun h => Bool.noConfusion (show false = true from h)), trivial⟩ (fun h k => newer_trans h k) (pickD_stable _ ⟨vIs_st, vIs_st, vIs_st, vIs_st, vIs_st, vIs_st, vIs_st, vIs_st, vIs_st, vIs_st, vIs_st, vIs_st, vIs_st, vIs_st, vIs_st, vIs_st, vIs_st, vIs_st, vIs_st, vIs_st, vIs_st, vIs_st, vIs_st, vIs_st, vIs_st, vIs_st, vIs_st, vIs_st, vIs_st, vIs_st, vIs_st, vIs_st, vIs_st, vIs_st, vIs_st, vIs_st, vIs_st, vIs_st, vIs_st, vIs_st, vIs_st, vIs_st, vIs_st, vIs_st, vIs_st, vIs_st, vIs_st, vIs_st, vIs_st, vIs_st, vIs_st, vIs_st, vIs_st, vIs_st, vIs_st, trivial⟩) (Below.refl _ w4).drew (Below.refl _ _) ?_ ?_)
                  · refine ⟨.inr ?_, .inr ?_, .inr ?_, .inr ?_, .inr ?_, .inr ?_, .inr ?_, .inr ?_, .inr ?_, .inr ?_, .inr ?_, .inr ?_, .inr ?_, .inr ?_, .inr ?_, .inr ?_, .inr ?_, .inr ?_, .inr ?_, .inr ?_, .inr ?_, .inr ?_, .inr ?_, .inr ?_, .inr ?_, .inr ?_, .inr ?_, .inr ?_, .inr ?_, .inr ?_, .inr ?_, .inr ?_, .inr ?_, .inr ?_, .inr ?_, .inr ?_, .inr ?_, .inr ?_, .inr ?_, .inr ?_, .inl rfl, .inl rfl, .inl rfl, .inl rfl, .inl rfl, .inl rfl, .inl rfl, .inl rfl, .inl rfl, .inl rfl, .inl rfl, .inl rfl, .inl rfl, .inr ?_, .inr ?_, trivial⟩
                    · intro a W hG hR hO hp
                      have h6 := hO.slot 6 (by kernel_rfl)
                      refine kY (v := .pointer (some ⟨mb, 0, none⟩)) hG rfl ?_
                      simp [slotOf] at h6
                      simp [execOp, go_sem, h6]
                    · intro a W hG hR hO hp
                      have h33 : slotOf a 33 = .pointer (some ⟨mb, 0, none⟩) := hp.1
                      have c0 := keep_cell m0 hG
                      refine kY (v := vi m.1) hG rfl ?_
                      simp [slotOf] at h33
                      simp [execOp, go_sem, h33, c0]
                    · intro a W hG hR hO hp
                      have h7 := hO.slot 7 (by kernel_rfl)
                      refine kY (v := .pointer (some ⟨pb, 0, none⟩)) hG rfl ?_
                      simp [slotOf] at h7
                      simp [execOp, go_sem, h7]
                    · intro a W hG hR hO hp
                      have h35 : slotOf a 35 = .pointer (some ⟨pb, 0, none⟩) := hp.1
                      refine kY (v := .pointer (some ⟨pb, 0, none⟩)) hG rfl ?_
                      simp [slotOf] at h35
                      simp [execOp, go_sem, h35]
                    · intro a W hG hR hO hp
                      have h36 : slotOf a 36 = .pointer (some ⟨pb, 0, none⟩) := hp.1
                      have c0 := keep_cell p0 hG
                      refine kY (v := vi p.x.lo) hG rfl ?_
                      simp [slotOf] at h36
                      simp [execOp, go_sem, h36, c0]
                    · intro a W hG hR hO hp
                      have h7 := hO.slot 7 (by kernel_rfl)
                      refine kY (v := .pointer (some ⟨pb, 0, none⟩)) hG rfl ?_
                      simp [slotOf] at h7
                      simp [execOp, go_sem, h7]
                    · intro a W hG hR hO hp
                      have h38 : slotOf a 38 = .pointer (some ⟨pb, 0, none⟩) := hp.1
                      refine kY (v := .pointer (some ⟨pb, 1, none⟩)) hG rfl ?_
                      simp [slotOf] at h38
                      simp [execOp, go_sem, h38]
                    · intro a W hG hR hO hp
                      have h39 : slotOf a 39 = .pointer (some ⟨pb, 1, none⟩) := hp.1
                      have c0 := keep_cell p1 hG
                      refine kY (v := vi p.x.hi) hG rfl ?_
                      simp [slotOf] at h39
                      simp [execOp, go_sem, h39, c0]
                    · intro a W hG hR hO hp
                      have h34 : slotOf a 34 = vi m.1 := hp.1
                      have h37 : slotOf a 37 = vi p.x.lo := hp.2.1
                      have h40 : slotOf a 40 = vi p.x.hi := hp.2.2.1
                      refine wp_enters (f := 74) (args := #[vi m.1, vi p.x.lo, vi p.x.hi]) ?_ ((HW1.out W).mono ?_)
                      · simp [slotOf] at h34 h37 h40
                        simp [go_sem, h34, h37, h40]
                      · rintro e w' ⟨rfl, rfl⟩
                        exact ⟨_, rfl, _, rfl, rfl, Below.refl _ _, hG⟩
                    · intro a W hG hR hO hp
                      have h41 : slotOf a 41 = .bool true := hp.1
                      refine kY (v := .bool false) hG rfl ?_
                      simp [slotOf] at h41
                      simp [execOp, go_sem, h41]
                    · exact fun a W hG _ _ hp => kM 42 rfl hp.1 rfl hG
                    · intro a W hG hR hO hp
                      have h6 := hO.slot 6 (by kernel_rfl)
                      refine kY (v := .pointer (some ⟨mb, 1, none⟩)) hG rfl ?_
                      simp [slotOf] at h6
                      simp [execOp, go_sem, h6]
                    · intro a W hG hR hO hp
                      have h44 : slotOf a 44 = .pointer (some ⟨mb, 1, none⟩) := hp.1
                      have c0 := keep_cell m1 hG
                      refine kY (v := vi m.2) hG rfl ?_
                      simp [slotOf] at h44
                      simp [execOp, go_sem, h44, c0]
                    · intro a W hG hR hO hp
                      have h7 := hO.slot 7 (by kernel_rfl)
                      refine kY (v := .pointer (some ⟨pb, 2, none⟩)) hG rfl ?_
                      simp [slotOf] at h7
                      simp [execOp, go_sem, h7]
                    · intro a W hG hR hO hp
                      have h46 : slotOf a 46 = .pointer (some ⟨pb, 2, none⟩) := hp.1
                      refine kY (v := .pointer (some ⟨pb, 2, none⟩)) hG rfl ?_
                      simp [slotOf] at h46
                      simp [execOp, go_sem, h46]
                    · intro a W hG hR hO hp
                      have h47 : slotOf a 47 = .pointer (some ⟨pb, 2, none⟩) := hp.1
                      have c0 := keep_cell p2 hG
                      refine kY (v := vi p.y.lo) hG rfl ?_
                      simp [slotOf] at h47
                      simp [execOp, go_sem, h47, c0]
                    · intro a W hG hR hO hp
                      have h7 := hO.slot 7 (by kernel_rfl)
                      refine kY (v := .pointer (some ⟨pb, 2, none⟩)) hG rfl ?_
                      simp [slotOf] at h7
                      simp [execOp, go_sem, h7]
                    · intro a W hG hR hO hp
                      have h49 : slotOf a 49 = .pointer (some ⟨pb, 2, none⟩) := hp.1
                      refine kY (v := .pointer (some ⟨pb, 3, none⟩)) hG rfl ?_
                      simp [slotOf] at h49
                      simp [execOp, go_sem, h49]
                    · intro a W hG hR hO hp
                      have h50 : slotOf a 50 = .pointer (some ⟨pb, 3, none⟩) := hp.1
                      have c0 := keep_cell p3 hG
                      refine kY (v := vi p.y.hi) hG rfl ?_
                      simp [slotOf] at h50
                      simp [execOp, go_sem, h50, c0]
                    · intro a W hG hR hO hp
                      have h45 : slotOf a 45 = vi m.2 := hp.1
                      have h48 : slotOf a 48 = vi p.y.lo := hp.2.1
                      have h51 : slotOf a 51 = vi p.y.hi := hp.2.2.1
                      refine wp_enters (f := 74) (args := #[vi m.2, vi p.y.lo, vi p.y.hi]) ?_ ((HW2.out W).mono ?_)
                      · simp [slotOf] at h45 h48 h51
                        simp [go_sem, h45, h48, h51]
                      · rintro e w' ⟨rfl, rfl⟩
                        exact ⟨_, rfl, _, rfl, rfl, Below.refl _ _, hG⟩
                    · intro a W hG hR hO hp
                      have h52 : slotOf a 52 = .bool true := hp.1
                      refine kY (v := .bool false) hG rfl ?_
                      simp [slotOf] at h52
                      simp [execOp, go_sem, h52]
                    · intro a W hG hR hO hp
                      have h43 : slotOf a 43 = .bool false := hp.1
                      have h53 : slotOf a 53 = .bool false := hp.2.1
                      refine kY (v := .bool false) hG rfl ?_
                      simp [slotOf] at h43 h53
                      simp [execOp, go_sem, h43, h53]
                    · exact fun a W hG _ _ hp => kM 54 rfl hp.1 rfl hG
                    · exact fun a W hG _ hO _ => kM 5 rfl (hO.slot 5 (by kernel_rfl)) rfl hG
                    · intro a W hG hR hO hp
                      have h56 : slotOf a 56 = .int .i64 i := hp.1
                      refine kY (v := .bool true) hG rfl ?_
                      simp [slotOf] at h56
                      simp [execOp, go_sem, h56, hi0]
                    · exact fun a W hG _ _ hp => kM 57 rfl hp.1 rfl hG
                    · intro a W hG hR hO hp
                      have h6 := hO.slot 6 (by kernel_rfl)
                      refine kY (v := .pointer (some ⟨mb, 0, none⟩)) hG rfl ?_
                      simp [slotOf] at h6
                      simp [execOp, go_sem, h6]
                    · intro a W hG hR hO hp
                      have h59 : slotOf a 59 = .pointer (some ⟨mb, 0, none⟩) := hp.1
                      have c0 := keep_cell m0 hG
                      refine kY (v := vi m.1) hG rfl ?_
                      simp [slotOf] at h59
                      simp [execOp, go_sem, h59, c0]
                    · exact fun a W hG _ hO _ => kM 1 rfl (hO.slot 1 (by kernel_rfl)) rfl hG
                    · exact fun a W hG _ hO _ => kM 5 rfl (hO.slot 5 (by kernel_rfl)) rfl hG
                    · intro a W hG hR hO hp
                      have h62 : slotOf a 62 = .int .i64 i := hp.1
                      refine kY (v := .int .i64 j) hG rfl ?_
                      simp [slotOf] at h62
                      simp [execOp, go_sem, h62, hij]
                    · intro a W hG hR hO hp
                      have h61 : slotOf a 61 = .slice (some ⟨fb, fo, none⟩) f.length fc := hp.1
                      have h63 : slotOf a 63 = .int .i64 j := hp.2.1
                      refine kY (v := .pointer (some ⟨fb, fo + j * 2, none⟩)) hG rfl ?_
                      simp [slotOf] at h61 h63
                      simp [execOp, go_sem, h61, h63, hjf]
                    · intro a W hG hR hO hp
                      have h64 : slotOf a 64 = .pointer (some ⟨fb, fo + j * 2, none⟩) := hp.1
                      refine kY (v := .pointer (some ⟨fb, fo + j * 2, none⟩)) hG rfl ?_
                      simp [slotOf] at h64
                      simp [execOp, go_sem, h64]
                    · intro a W hG hR hO hp
                      have h65 : slotOf a 65 = .pointer (some ⟨fb, fo + j * 2, none⟩) := hp.1
                      have c0 := keep_cell o0 hG
                      refine kY (v := vi o.1) hG rfl ?_
                      simp [slotOf] at h65
                      simp [execOp, go_sem, h65, c0]
                    · intro a W hG hR hO hp
                      have h60 : slotOf a 60 = vi m.1 := hp.1
                      have h66 : slotOf a 66 = vi o.1 := hp.2.1
                      refine kY (v := vi (m.1 - o.1)) hG rfl ?_
                      simp [slotOf] at h60 h66
                      simp [execOp, go_sem, h60, h66, hwx]
                    · intro a W hG hR hO hp
                      have h67 : slotOf a 67 = vi (m.1 - o.1) := hp.1
                      refine wp_enters (f := 75) (args := #[vi (m.1 - o.1)]) ?_ ((HA1.out W).mono ?_)
                      · simp [slotOf] at h67
                        simp [go_sem, h67]
                      · rintro e w' ⟨rfl, rfl⟩
                        exact ⟨_, rfl, _, rfl, rfl, Below.refl _ _, hG⟩
                    · intro a W hG hR hO hp
                      have h2 := hO.slot 2 (by kernel_rfl)
                      refine kY (v := .pointer (some ⟨w.heap.size, 1, none⟩)) hG rfl ?_
                      simp [slotOf] at h2
                      simp [execOp, go_sem, h2]
                    · intro a W hG hR hO hp
                      have h69 : slotOf a 69 = .pointer (some ⟨w.heap.size, 1, none⟩) := hp.1
                      have c0 := keep_cell x1 hG
                      refine kY (v := vi y.s.strain) hG rfl ?_
                      simp [slotOf] at h69
                      simp [execOp, go_sem, h69, c0]
                    · intro a W hG hR hO hp
                      have h68 : slotOf a 68 = vi ax := hp.1
                      have h70 : slotOf a 70 = vi y.s.strain := hp.2.1
                      refine kY (v := .bool true) hG rfl ?_
                      simp [slotOf] at h68 h70
                      simp [execOp, go_sem, h68, h70, hqx]
                    · exact fun a W hG _ _ hp => kM 71 rfl hp.1 rfl hG
                    · intro a W hG hR hO hp
                      have h72 : slotOf a 72 = .bool true := hp.1
                      have h85 : slotOf a 85 = undef := hp.2.1
                      refine kY (v := .bool true) hG rfl ?_
                      simp [slotOf] at h72 h85
                      simp [execOp, go_sem, h72, h85]
                    · intro a W hG hR hO hp
                      have h58 : slotOf a 58 = .bool true := hp.1
                      have h86 : slotOf a 86 = .bool true := hp.2.1
                      refine kY (v := .bool true) hG rfl ?_
                      simp [slotOf] at h58 h86
                      simp [execOp, go_sem, h58, h86]
                  · intro w5 hG hR
                    rintro _ rfl _ rfl _ rfl _ rfl _ rfl _ rfl _ rfl _ rfl _ rfl _ rfl _ rfl _ rfl _ rfl _ rfl _ rfl _ rfl _ rfl _ rfl _ rfl _ rfl _ rfl _ rfl _ rfl _ rfl _ rfl _ rfl _ rfl _ rfl _ rfl _ rfl _ rfl _ rfl _ rfl _ rfl _ rfl _ rfl _ rfl _ rfl _ rfl _ rfl _ rfl _ rfl _ rfl _ rfl _ rfl _ rfl _ rfl _ rfl _ rfl _ rfl _ rfl _ rfl _ rfl _ rfl _ rfl
                    change wpList _ _ _ _ _ _
                    simp only [Act.put, List.setIfInBounds_toArray, List.set_cons_zero, List.set_cons_succ, List.drop_succ_cons, List.drop_zero]
                    have HE4 := Lib.hid (newer_trans H4.out.1 hG)
                    clear hG hR hfr m0 m1 p0 p1 p2 p3 x1 o0 o1
                    go_wp2_with fail
                    go_ret
                    exact ⟨ret_bool HB.out.symm, HE4.out⟩
                case pos =>
                  have hqx : ¬ y.s.strain < ax := by omega
                  by_cases hqy' : ay ≤ y.s.strain
                  case neg =>
                    have hqy : y.s.strain < ay := by omega
                    have HB := Lib.hid (HBAD.out (by rw [HNE.out]; simp [hqy']))
                    clear hqx' hqy'
                    refine wp_words (by kernel_rfl) (region_told_u 55 (by kernel_rfl) (by kernel_rfl) [false, false, false, false, false, false, false, false, false, false, false, false, false, false, false, false, false, false, false, false, false, false, false, false, false, false, false, false, false, false, false, false, false, false, false, false, false, false, false, false, false, false, false, false, false, false, false, false, false, false, false, false, false, false, false] (fun W => Below w4.heap.size w4 W) newer [vIs (.pointer (some ⟨mb, 0, none⟩)), vIs (vi m.1), vIs (.pointer (some ⟨pb, 0, none⟩)), vIs (.pointer (some ⟨pb, 0, none⟩)), vIs (vi p.x.lo), vIs (.pointer (some ⟨pb, 0, none⟩)), vIs (.pointer (some ⟨pb, 1, none⟩)), vIs (vi p.x.hi), vIs (.bool true), vIs (.bool false), vIs (.bool false), vIs (.pointer (some ⟨mb, 1, none⟩)), vIs (vi m.2), vIs (.pointer (some ⟨pb, 2, none⟩)), vIs (.pointer (some ⟨pb, 2, none⟩)), vIs (vi p.y.lo), vIs (.pointer (some ⟨pb, 2, none⟩)), vIs (.pointer (some ⟨pb, 3, none⟩)), vIs (vi p.y.hi), vIs (.bool true), vIs (.bool false), vIs (.bool false), vIs (.bool false), vIs (.int .i64 i), vIs (.bool true), vIs (.bool true), vIs (.pointer (some ⟨mb, 0, none⟩)), vIs (vi m.1), vIs (.slice (some ⟨fb, fo, none⟩) f.length fc), vIs (.int .i64 i), vIs (.int .i64 j), vIs (.pointer (some ⟨fb, fo + j * 2, none⟩)), vIs (.pointer (some ⟨fb, fo + j * 2, none⟩)), vIs (vi o.1), vIs (vi (m.1 - o.1)), vIs (vi ax), vIs (.pointer (some ⟨w.heap.size, 1, none⟩)), vIs (vi y.s.strain), vIs (.bool false), vIs (.bool false), vIs (.pointer (some ⟨mb, 1, none⟩)), vIs (vi m.2), vIs (.slice (some ⟨fb, fo, none⟩) f.length fc), vIs (.int .i64 i), vIs (.int .i64 j), vIs (.pointer (some ⟨fb, fo + j * 2, none⟩)), vIs (.pointer (some ⟨fb, fo + j * 2 + 1, none⟩)), vIs (vi o.2), vIs (vi (m.2 - o.2)), vIs (vi ay), vIs (.pointer (some ⟨w.heap.size, 1, none⟩)), vIs (vi y.s.strain), vIs (.bool true), vIs (.bool true), vIs (.bool true)] ⟨rfl, rfl, rfl, rfl, rfl, rfl, rfl, rfl, rfl, rfl, rfl, (fun v W h => by obtain rfl : v = _ := h; rfl), (fun v W h => by obtain rfl : v = _ := h; rfl), (fun v W h => by obtain rfl : v = _ := h; rfl), (fun v W h => by obtain rfl : v = _ := h; rfl), (fun v W h => by obtain rfl : v = _ := h; rfl), (fun v W h => by obtain rfl : v = _ := h; rfl), (fun v W h => by obtain rfl : v = _ := h; rfl), (fun v W h => by obtain rfl : v = _ := h; rfl), (fun v W h => by obtain rfl : v = _ := h; rfl), (fun v W h => by obtain rfl : v = _ := h; rfl), rfl, rfl, (fun v W h => by obtain rfl : v = _ := h; rfl), (fun v W h => by obtain rfl : v = _ := h; rfl), (fun v W h => by obtain rfl : v = _ := h; rfl), (fun v W h => by obtain rfl : v = _ := h; rfl), (fun v W h => by obtain rfl : v = _ := h; rfl), (fun v W h => by obtain rfl : v = _ := h; rfl), (fun v W h => by obtain rfl : v = _ := h; rfl), (fun v W h => by obtain rfl : v = _ := h; rfl), (fun v W h => by obtain rfl : v = _ := h; rfl), (fun v W h => by obtain rfl : v = _ := h; rfl), (fun v W h => by obtain rfl : v = _ := h; rfl), (fun v W h => by obtain rfl : v = _ := h; rfl), (fun v W h => by obtain rfl : v = _ := h; rfl), (fun v W h => by obtain rfl : v = _ := h; rfl), (fun v W h => by obtain rfl : v = _ := h; rfl), (fun v W h => by obtain rfl : v = _ := h; rfl), (fun v W h => by obtain rfl : v = _ := h; rfl), (fun v W h => by obtain rfl : v = _ := h; rfl), (fun v W h => by obtain rfl : v = _ := h; rfl), (fun v W h => by obtain rfl : v = _ := h; rfl), (fun v W h => by obtain rfl : v = _ := h; rfl), (fun v W h => by obtain rfl : v = _ := h; rfl), (fun v W h => by obtain rfl : v = _ := h; rfl), (fun v W h => by obtain rfl : v = _ := h; rfl), (fun v W h => by obtain rfl : v = _ := h; rfl), (fun v W h => by obtain rfl : v = _ := h; rfl), (fun v W h => by obtain rfl : v = _ := h; rfl), (fun v W h => by obtain rfl : v = _ := h; rfl), (fun v W h => by obtain rfl : v = _ := h; rfl), (fun v W h => by obtain rfl : v = _ := h; rfl), (fun v W h => by obtain rfl : v = _ := h; rfl), (fun v W h => by obtain rfl : v = _ := h; rfl), trivial⟩ ⟨(fun h => Bool.noConfusion (show false = true from h)), (fun h => Bool.noConfusion (show false = true from h)), (fun h => Bool.noConfusion (show false = true from h)), (fun h => Bool.noConfusion (show false = true from h)), (fun h => Bool.noConfusion (show false = true from h)), (fun h => Bool.noConfusion (show false = true from h)), (fun h => Bool.noConfusion (show false = true from h)), (fun h => Bool.noConfusion (show false = true from h)), (fun h => Bool.noConfusion (show false = true from h)), (fun h => Bool.noConfusion (show false = true from h)), (fun h => Bool.noConfusion (show false = true from h)), (fun h => Bool.noConfusion (show false = true from h)), (fun h => Bool.noConfusion (show false = true from h)), (fun h => Bool.noConfusion (show false = true from h)), (fun h => Bool.noConfusion (show false = true from h)), (fun h => Bool.noConfusion (show false = true from h)), (fun h => Bool.noConfusion (show false = true from h)), (fun h => Bool.noConfusion (show false = true from h)), (fun h => Bool.noConfusion (show false = true from h)), (fun h => Bool.noConfusion (show false = true from h)), (fun h => Bool.noConfusion (show false = true from h)), (fun h => Bool.noConfusion (show false = true from h)), (fun h => Bool.noConfusion (show false = true from h)), (fun h => Bool.noConfusion (show false = true from h)), (fun h => Bool.noConfusion (show false = true from h)), (fun h => Bool.noConfusion (show false = true from h)), (fun h => Bool.noConfusion (show false = true from h)), (fun h => Bool.noConfusion (show false = true from h)), (fun h => Bool.noConfusion (show false = true from h)), (fun h => Bool.noConfusion (show false = true from h)), (fun h => Bool.noConfusion (show false = true from h)), (fun h => Bool.noConfusion (show false = true from h)), (fun h => Bool.noConfusion (show false = true from h)), (fun h => Bool.noConfusion (show false = true from h)), (fun h => Bool.noConfusion (show false = true from h)), (fun h => Bool.noConfusion (show false = true from h)), (fun h => Bool.noConfusion (show false = true from h)), (fun h => Bool.noConfusion (show false = true from h)), (fun h => Bool.noConfusion (show false = true from h)), (fun h => Bool.noConfusion (show false = true from h)), (fun h => Bool.noConfusion (show false = true from h)), (fun h => Bool.noConfusion (show false = true from h)), (fun h => Bool.noConfusion (show false = true from h)), (fun h => Bool.noConfusion (show false = true from h)), (fun h => Bool.noConfusion (show false = true from h)), (fun h => Bool.noConfusion (show false = true from h)), (fun h => Bool.noConfusion (show false = true from h)), (fun h => Bool.noConfusion (show false = true from h)), (fun h => Bool.noConfusion (show false = true from h)), (fun h => Bool.noConfusion (show false = true from h)), (fun h => Bool.noConfusion (show false = true from h)), (fun h => Bool.noConfusion (show false = true from h)), (fun h => Bool.noConfusion (show false = true from h)), (fun h => Bool.noConfusion (show false = true from h)), (fun h => Bool.noConfusion (show false = true from h)), trivial⟩ (fun h k => newer_trans h k) (pickD_stable _ ⟨vIs_st, vIs_st, vIs_st, vIs_st, vIs_st, vIs_st, vIs_st, vIs_st, vIs_st, vIs_st, vIs_st, vIs_st, vIs_st, vIs_st, vIs_st, vIs_st, vIs_st, vIs_st, vIs_st, vIs_st, vIs_st, vIs_st, vIs_st, vIs_st, vIs_st, vIs_st, vIs_st, vIs_st, vIs_st, vIs_st, vIs_st, vIs_st, vIs_st, vIs_st, vIs_st, vIs_st, vIs_st, vIs_st, vIs_st, vIs_st, vIs_st, vIs_st, vIs_st, vIs_st, vIs_st, vIs_st, vIs_st, vIs_st, vIs_st, vIs_st, vIs_st, vIs_st, vIs_st, vIs_st, vIs_st, trivial⟩) (Below.refl _ w4).drew (Below.refl _ _) ?_ ?_)
                    · refine ⟨.inr ?_, .inr ?_, .inr ?_, .inr ?_, .inr ?_, .inr ?_, .inr ?_, .inr ?_, .inr ?_, .inr ?_, .inr ?_, .inr ?_, .inr ?_, .inr ?_, .inr ?_, .inr ?_, .inr ?_, .inr ?_, .inr ?_, .inr ?_, .inr ?_, .inr ?_, .inr ?_, .inr ?_, .inr ?_, .inr ?_, .inr ?_, .inr ?_, .inr ?_, .inr ?_, .inr ?_, .inr ?_, .inr ?_, .inr ?_, .inr ?_, .inr ?_, .inr ?_, .inr ?_, .inr ?_, .inr ?_, .inr ?_, .inr ?_, .inr ?_, .inr ?_, .inr ?_, .inr ?_, .inr ?_, .inr ?_, .inr ?_, .inr ?_, .inr ?_, .inr ?_, .inr ?_, .inr ?_, .inr ?_, trivial⟩
                      · intro a W hG hR hO hp
                        have h6 := hO.slot 6 (by kernel_rfl)
                        refine kY (v := .pointer (some ⟨mb, 0, none⟩)) hG rfl ?_
                        simp [slotOf] at h6
                        simp [execOp, go_sem, h6]
                      · intro a W hG hR hO hp
                        have h33 : slotOf a 33 = .pointer (some ⟨mb, 0, none⟩) := hp.1
                        have c0 := keep_cell m0 hG
                        refine kY (v := vi m.1) hG rfl ?_
                        simp [slotOf] at h33
                        simp [execOp, go_sem, h33, c0]
                      · intro a W hG hR hO hp
                        have h7 := hO.slot 7 (by kernel_rfl)
                        refine kY (v := .pointer (some ⟨pb, 0, none⟩)) hG rfl ?_
                        simp [slotOf] at h7
                        simp [execOp, go_sem, h7]
                      · intro a W hG hR hO hp
                        have h35 : slotOf a 35 = .pointer (some ⟨pb, 0, none⟩) := hp.1
                        refine kY (v := .pointer (some ⟨pb, 0, none⟩)) hG rfl ?_
                        simp [slotOf] at h35
                        simp [execOp, go_sem, h35]
                      · intro a W hG hR hO hp
                        have h36 : slotOf a 36 = .pointer (some ⟨pb, 0, none⟩) := hp.1
                        have c0 := keep_cell p0 hG
                        refine kY (v := vi p.x.lo) hG rfl ?_
                        simp [slotOf] at h36
                        simp [execOp, go_sem, h36, c0]
                      · intro a W hG hR hO hp
                        have h7 := hO.slot 7 (by kernel_rfl)
                        refine kY (v := .pointer (some ⟨pb, 0, none⟩)) hG rfl ?_
                        simp [slotOf] at h7
                        simp [execOp, go_sem, h7]
                      · intro a W hG hR hO hp
                        have h38 : slotOf a 38 = .pointer (some ⟨pb, 0, none⟩) := hp.1
                        refine kY (v := .pointer (some ⟨pb, 1, none⟩)) hG rfl ?_
                        simp [slotOf] at h38
                        simp [execOp, go_sem, h38]
                      · intro a W hG hR hO hp
                        have h39 : slotOf a 39 = .pointer (some ⟨pb, 1, none⟩) := hp.1
                        have c0 := keep_cell p1 hG
                        refine kY (v := vi p.x.hi) hG rfl ?_
                        simp [slotOf] at h39
                        simp [execOp, go_sem, h39, c0]
                      · intro a W hG hR hO hp
                        have h34 : slotOf a 34 = vi m.1 := hp.1
                        have h37 : slotOf a 37 = vi p.x.lo := hp.2.1
                        have h40 : slotOf a 40 = vi p.x.hi := hp.2.2.1
                        refine wp_enters (f := 74) (args := #[vi m.1, vi p.x.lo, vi p.x.hi]) ?_ ((HW1.out W).mono ?_)
                        · simp [slotOf] at h34 h37 h40
                          simp [go_sem, h34, h37, h40]
                        · rintro e w' ⟨rfl, rfl⟩
                          exact ⟨_, rfl, _, rfl, rfl, Below.refl _ _, hG⟩
                      · intro a W hG hR hO hp
                        have h41 : slotOf a 41 = .bool true := hp.1
                        refine kY (v := .bool false) hG rfl ?_
                        simp [slotOf] at h41
                        simp [execOp, go_sem, h41]
                      · exact fun a W hG _ _ hp => kM 42 rfl hp.1 rfl hG
                      · intro a W hG hR hO hp
                        have h6 := hO.slot 6 (by kernel_rfl)
                        refine kY (v := .pointer (some ⟨mb, 1, none⟩)) hG rfl ?_
                        simp [slotOf] at h6
                        simp [execOp, go_sem, h6]
                      · intro a W hG hR hO hp
                        have h44 : slotOf a 44 = .pointer (some ⟨mb, 1, none⟩) := hp.1
                        have c0 := keep_cell m1 hG
                        refine kY (v := vi m.2) hG rfl ?_
                        simp [slotOf] at h44
                        simp [execOp, go_sem, h44, c0]
                      · intro a W hG hR hO hp
                        have h7 := hO.slot 7 (by kernel_rfl)
                        refine kY (v := .pointer (some ⟨pb, 2, none⟩)) hG rfl ?_
                        simp [slotOf] at h7
                        simp [execOp, go_sem, h7]
                      · intro a W hG hR hO hp
                        have h46 : slotOf a 46 = .pointer (some ⟨pb, 2, none⟩) := hp.1
                        refine kY (v := .pointer (some ⟨pb, 2, none⟩)) hG rfl ?_
                        simp [slotOf] at h46
                        simp [execOp, go_sem, h46]
                      · intro a W hG hR hO hp
                        have h47 : slotOf a 47 = .pointer (some ⟨pb, 2, none⟩) := hp.1
                        have c0 := keep_cell p2 hG
                        refine kY (v := vi p.y.lo) hG rfl ?_
                        simp [slotOf] at h47
                        simp [execOp, go_sem, h47, c0]
                      · intro a W hG hR hO hp
                        have h7 := hO.slot 7 (by kernel_rfl)
                        refine kY (v := .pointer (some ⟨pb, 2, none⟩)) hG rfl ?_
                        simp [slotOf] at h7
                        simp [execOp, go_sem, h7]
                      · intro a W hG hR hO hp
                        have h49 : slotOf a 49 = .pointer (some ⟨pb, 2, none⟩) := hp.1
                        refine kY (v := .pointer (some ⟨pb, 3, none⟩)) hG rfl ?_
                        simp [slotOf] at h49
                        simp [execOp, go_sem, h49]
                      · intro a W hG hR hO hp
                        have h50 : slotOf a 50 = .pointer (some ⟨pb, 3, none⟩) := hp.1
                        have c0 := keep_cell p3 hG
                        refine kY (v := vi p.y.hi) hG rfl ?_
                        simp [slotOf] at h50
                        simp [execOp, go_sem, h50, c0]
                      · intro a W hG hR hO hp
                        have h45 : slotOf a 45 = vi m.2 := hp.1
                        have h48 : slotOf a 48 = vi p.y.lo := hp.2.1
                        have h51 : slotOf a 51 = vi p.y.hi := hp.2.2.1
                        refine wp_enters (f := 74) (args := #[vi m.2, vi p.y.lo, vi p.y.hi]) ?_ ((HW2.out W).mono ?_)
                        · simp [slotOf] at h45 h48 h51
                          simp [go_sem, h45, h48, h51]
                        · rintro e w' ⟨rfl, rfl⟩
                          exact ⟨_, rfl, _, rfl, rfl, Below.refl _ _, hG⟩
                      · intro a W hG hR hO hp
                        have h52 : slotOf a 52 = .bool true := hp.1
                        refine kY (v := .bool false) hG rfl ?_
                        simp [slotOf] at h52
                        simp [execOp, go_sem, h52]
                      · intro a W hG hR hO hp
                        have h43 : slotOf a 43 = .bool false := hp.1
                        have h53 : slotOf a 53 = .bool false := hp.2.1
                        refine kY (v := .bool false) hG rfl ?_
                        simp [slotOf] at h43 h53
                        simp [execOp, go_sem, h43, h53]
                      · exact fun a W hG _ _ hp => kM 54 rfl hp.1 rfl hG
                      · exact fun a W hG _ hO _ => kM 5 rfl (hO.slot 5 (by kernel_rfl)) rfl hG
                      · intro a W hG hR hO hp
                        have h56 : slotOf a 56 = .int .i64 i := hp.1
                        refine kY (v := .bool true) hG rfl ?_
                        simp [slotOf] at h56
                        simp [execOp, go_sem, h56, hi0]
                      · exact fun a W hG _ _ hp => kM 57 rfl hp.1 rfl hG
                      · intro a W hG hR hO hp
                        have h6 := hO.slot 6 (by kernel_rfl)
                        refine kY (v := .pointer (some ⟨mb, 0, none⟩)) hG rfl ?_
                        simp [slotOf] at h6
                        simp [execOp, go_sem, h6]
                      · intro a W hG hR hO hp
                        have h59 : slotOf a 59 = .pointer (some ⟨mb, 0, none⟩) := hp.1
                        have c0 := keep_cell m0 hG
                        refine kY (v := vi m.1) hG rfl ?_
                        simp [slotOf] at h59
                        simp [execOp, go_sem, h59, c0]
                      · exact fun a W hG _ hO _ => kM 1 rfl (hO.slot 1 (by kernel_rfl)) rfl hG
                      · exact fun a W hG _ hO _ => kM 5 rfl (hO.slot 5 (by kernel_rfl)) rfl hG
                      · intro a W hG hR hO hp
                        have h62 : slotOf a 62 = .int .i64 i := hp.1
                        refine kY (v := .int .i64 j) hG rfl ?_
                        simp [slotOf] at h62
                        simp [execOp, go_sem, h62, hij]
                      · intro a W hG hR hO hp
                        have h61 : slotOf a 61 = .slice (some ⟨fb, fo, none⟩) f.length fc := hp.1
                        have h63 : slotOf a 63 = .int .i64 j := hp.2.1
                        refine kY (v := .pointer (some ⟨fb, fo + j * 2, none⟩)) hG rfl ?_
                        simp [slotOf] at h61 h63
                        simp [execOp, go_sem, h61, h63, hjf]
                      · intro a W hG hR hO hp
                        have h64 : slotOf a 64 = .pointer (some ⟨fb, fo + j * 2, none⟩) := hp.1
                        refine kY (v := .pointer (some ⟨fb, fo + j * 2, none⟩)) hG rfl ?_
                        simp [slotOf] at h64
                        simp [execOp, go_sem, h64]
                      · intro a W hG hR hO hp
                        have h65 : slotOf a 65 = .pointer (some ⟨fb, fo + j * 2, none⟩) := hp.1
                        have c0 := keep_cell o0 hG
                        refine kY (v := vi o.1) hG rfl ?_
                        simp [slotOf] at h65
                        simp [execOp, go_sem, h65, c0]
                      · intro a W hG hR hO hp
                        have h60 : slotOf a 60 = vi m.1 := hp.1
                        have h66 : slotOf a 66 = vi o.1 := hp.2.1
                        refine kY (v := vi (m.1 - o.1)) hG rfl ?_
                        simp [slotOf] at h60 h66
                        simp [execOp, go_sem, h60, h66, hwx]
                      · intro a W hG hR hO hp
                        have h67 : slotOf a 67 = vi (m.1 - o.1) := hp.1
                        refine wp_enters (f := 75) (args := #[vi (m.1 - o.1)]) ?_ ((HA1.out W).mono ?_)
                        · simp [slotOf] at h67
                          simp [go_sem, h67]
                        · rintro e w' ⟨rfl, rfl⟩
                          exact ⟨_, rfl, _, rfl, rfl, Below.refl _ _, hG⟩
                      · intro a W hG hR hO hp
                        have h2 := hO.slot 2 (by kernel_rfl)
                        refine kY (v := .pointer (some ⟨w.heap.size, 1, none⟩)) hG rfl ?_
                        simp [slotOf] at h2
                        simp [execOp, go_sem, h2]
                      · intro a W hG hR hO hp
                        have h69 : slotOf a 69 = .pointer (some ⟨w.heap.size, 1, none⟩) := hp.1
                        have c0 := keep_cell x1 hG
                        refine kY (v := vi y.s.strain) hG rfl ?_
                        simp [slotOf] at h69
                        simp [execOp, go_sem, h69, c0]
                      · intro a W hG hR hO hp
                        have h68 : slotOf a 68 = vi ax := hp.1
                        have h70 : slotOf a 70 = vi y.s.strain := hp.2.1
                        refine kY (v := .bool false) hG rfl ?_
                        simp [slotOf] at h68 h70
                        simp [execOp, go_sem, h68, h70, hqx]
                      · exact fun a W hG _ _ hp => kM 71 rfl hp.1 rfl hG
                      · intro a W hG hR hO hp
                        have h6 := hO.slot 6 (by kernel_rfl)
                        refine kY (v := .pointer (some ⟨mb, 1, none⟩)) hG rfl ?_
                        simp [slotOf] at h6
                        simp [execOp, go_sem, h6]
                      · intro a W hG hR hO hp
                        have h73 : slotOf a 73 = .pointer (some ⟨mb, 1, none⟩) := hp.1
                        have c0 := keep_cell m1 hG
                        refine kY (v := vi m.2) hG rfl ?_
                        simp [slotOf] at h73
                        simp [execOp, go_sem, h73, c0]
                      · exact fun a W hG _ hO _ => kM 1 rfl (hO.slot 1 (by kernel_rfl)) rfl hG
                      · exact fun a W hG _ hO _ => kM 5 rfl (hO.slot 5 (by kernel_rfl)) rfl hG
                      · intro a W hG hR hO hp
                        have h76 : slotOf a 76 = .int .i64 i := hp.1
                        refine kY (v := .int .i64 j) hG rfl ?_
                        simp [slotOf] at h76
                        simp [execOp, go_sem, h76, hij]
                      · intro a W hG hR hO hp
                        have h75 : slotOf a 75 = .slice (some ⟨fb, fo, none⟩) f.length fc := hp.1
                        have h77 : slotOf a 77 = .int .i64 j := hp.2.1
                        refine kY (v := .pointer (some ⟨fb, fo + j * 2, none⟩)) hG rfl ?_
                        simp [slotOf] at h75 h77
                        simp [execOp, go_sem, h75, h77, hjf]
                      · intro a W hG hR hO hp
                        have h78 : slotOf a 78 = .pointer (some ⟨fb, fo + j * 2, none⟩) := hp.1
                        refine kY (v := .pointer (some ⟨fb, fo + j * 2 + 1, none⟩)) hG rfl ?_
                        simp [slotOf] at h78
                        simp [execOp, go_sem, h78]
                      · intro a W hG hR hO hp
                        have h79 : slotOf a 79 = .pointer (some ⟨fb, fo + j * 2 + 1, none⟩) := hp.1
                        have c0 := keep_cell o1 hG
                        refine kY (v := vi o.2) hG rfl ?_
                        simp [slotOf] at h79
                        simp [execOp, go_sem, h79, c0]
                      · intro a W hG hR hO hp
                        have h74 : slotOf a 74 = vi m.2 := hp.1
                        have h80 : slotOf a 80 = vi o.2 := hp.2.1
                        refine kY (v := vi (m.2 - o.2)) hG rfl ?_
                        simp [slotOf] at h74 h80
                        simp [execOp, go_sem, h74, h80, hwy]
                      · intro a W hG hR hO hp
                        have h81 : slotOf a 81 = vi (m.2 - o.2) := hp.1
                        refine wp_enters (f := 75) (args := #[vi (m.2 - o.2)]) ?_ ((HA2.out W).mono ?_)
                        · simp [slotOf] at h81
                          simp [go_sem, h81]
                        · rintro e w' ⟨rfl, rfl⟩
                          exact ⟨_, rfl, _, rfl, rfl, Below.refl _ _, hG⟩
                      · intro a W hG hR hO hp
                        have h2 := hO.slot 2 (by kernel_rfl)
                        refine kY (v := .pointer (some ⟨w.heap.size, 1, none⟩)) hG rfl ?_
                        simp [slotOf] at h2
                        simp [execOp, go_sem, h2]
                      · intro a W hG hR hO hp
                        have h83 : slotOf a 83 = .pointer (some ⟨w.heap.size, 1, none⟩) := hp.1
                        have c0 := keep_cell x1 hG
                        refine kY (v := vi y.s.strain) hG rfl ?_
                        simp [slotOf] at h83
                        simp [execOp, go_sem, h83, c0]
                      · intro a W hG hR hO hp
                        have h82 : slotOf a 82 = vi ay := hp.1
                        have h84 : slotOf a 84 = vi y.s.strain := hp.2.1
                        refine kY (v := .bool true) hG rfl ?_
                        simp [slotOf] at h82 h84
                        simp [execOp, go_sem, h82, h84, hqy]
                      · intro a W hG hR hO hp
                        have h72 : slotOf a 72 = .bool false := hp.1
                        have h85 : slotOf a 85 = .bool true := hp.2.1
                        refine kY (v := .bool true) hG rfl ?_
                        simp [slotOf] at h72 h85
                        simp [execOp, go_sem, h72, h85]
                      · intro a W hG hR hO hp
                        have h58 : slotOf a 58 = .bool true := hp.1
                        have h86 : slotOf a 86 = .bool true := hp.2.1
                        refine kY (v := .bool true) hG rfl ?_
                        simp [slotOf] at h58 h86
                        simp [execOp, go_sem, h58, h86]
                    · intro w5 hG hR
                      rintro _ rfl _ rfl _ rfl _ rfl _ rfl _ rfl _ rfl _ rfl _ rfl _ rfl _ rfl _ rfl _ rfl _ rfl _ rfl _ rfl _ rfl _ rfl _ rfl _ rfl _ rfl _ rfl _ rfl _ rfl _ rfl _ rfl _ rfl _ rfl _ rfl _ rfl _ rfl _ rfl _ rfl _ rfl _ rfl _ rfl _ rfl _ rfl _ rfl _ rfl _ rfl _ rfl _ rfl _ rfl _ rfl _ rfl _ rfl _ rfl _ rfl _ rfl _ rfl _ rfl _ rfl _ rfl _ rfl
                      change wpList _ _ _ _ _ _
                      simp only [Act.put, List.setIfInBounds_toArray, List.set_cons_zero, List.set_cons_succ, List.drop_succ_cons, List.drop_zero]
                      have HE4 := Lib.hid (newer_trans H4.out.1 hG)
                      clear hG hR hfr m0 m1 p0 p1 p2 p3 x1 o0 o1
                      go_wp2_with fail
                      go_ret
                      exact ⟨ret_bool HB.out.symm, HE4.out⟩
                  case pos =>
                    have hqy : ¬ y.s.strain < ay := by omega
                    have HG2 := Lib.hid (HGO.out (by rw [HNE.out]; simp [hqx', hqy']))
                    clear hqx' hqy'
                    refine wp_words (by kernel_rfl) (region_told_u 55 (by kernel_rfl) (by kernel_rfl) [false, false, false, false, false, false, false, false, false, false, false, false, false, false, false, false, false, false, false, false, false, false, false, false, false, false, false, false, false, false, false, false, false, false, false, false, false, false, false, false, false, false, false, false, false, false, false, false, false, false, false, false, false, false, false] (fun W => Below w4.heap.size w4 W) newer [vIs (.pointer (some ⟨mb, 0, none⟩)), vIs (vi m.1), vIs (.pointer (some ⟨pb, 0, none⟩)), vIs (.pointer (some ⟨pb, 0, none⟩)), vIs (vi p.x.lo), vIs (.pointer (some ⟨pb, 0, none⟩)), vIs (.pointer (some ⟨pb, 1, none⟩)), vIs (vi p.x.hi), vIs (.bool true), vIs (.bool false), vIs (.bool false), vIs (.pointer (some ⟨mb, 1, none⟩)), vIs (vi m.2), vIs (.pointer (some ⟨pb, 2, none⟩)), vIs (.pointer (some ⟨pb, 2, none⟩)), vIs (vi p.y.lo), vIs (.pointer (some ⟨pb, 2, none⟩)), vIs (.pointer (some ⟨pb, 3, none⟩)), vIs (vi p.y.hi), vIs (.bool true), vIs (.bool false), vIs (.bool false), vIs (.bool false), vIs (.int .i64 i), vIs (.bool true), vIs (.bool true), vIs (.pointer (some ⟨mb, 0, none⟩)), vIs (vi m.1), vIs (.slice (some ⟨fb, fo, none⟩) f.length fc), vIs (.int .i64 i), vIs (.int .i64 j), vIs (.pointer (some ⟨fb, fo + j * 2, none⟩)), vIs (.pointer (some ⟨fb, fo + j * 2, none⟩)), vIs (vi o.1), vIs (vi (m.1 - o.1)), vIs (vi ax), vIs (.pointer (some ⟨w.heap.size, 1, none⟩)), vIs (vi y.s.strain), vIs (.bool false), vIs (.bool false), vIs (.pointer (some ⟨mb, 1, none⟩)), vIs (vi m.2), vIs (.slice (some ⟨fb, fo, none⟩) f.length fc), vIs (.int .i64 i), vIs (.int .i64 j), vIs (.pointer (some ⟨fb, fo + j * 2, none⟩)), vIs (.pointer (some ⟨fb, fo + j * 2 + 1, none⟩)), vIs (vi o.2), vIs (vi (m.2 - o.2)), vIs (vi ay), vIs (.pointer (some ⟨w.heap.size, 1, none⟩)), vIs (vi y.s.strain), vIs (.bool false), vIs (.bool false), vIs (.bool false)] ⟨rfl, rfl, rfl, rfl, rfl, rfl, rfl, rfl, rfl, rfl, rfl, (fun v W h => by obtain rfl : v = _ := h; rfl), (fun v W h => by obtain rfl : v = _ := h; rfl), (fun v W h => by obtain rfl : v = _ := h; rfl), (fun v W h => by obtain rfl : v = _ := h; rfl), (fun v W h => by obtain rfl : v = _ := h; rfl), (fun v W h => by obtain rfl : v = _ := h; rfl), (fun v W h => by obtain rfl : v = _ := h; rfl), (fun v W h => by obtain rfl : v = _ := h; rfl), (fun v W h => by obtain rfl : v = _ := h; rfl), (fun v W h => by obtain rfl : v = _ := h; rfl), rfl, rfl, (fun v W h => by obtain rfl : v = _ := h; rfl), (fun v W h => by obtain rfl : v = _ := h; rfl), (fun v W h => by obtain rfl : v = _ := h; rfl), (fun v W h => by obtain rfl : v = _ := h; rfl), (fun v W h => by obtain rfl : v = _ := h; rfl), (fun v W h => by obtain rfl : v = _ := h; rfl), (fun v W h => by obtain rfl : v = _ := h; rfl), (fun v W h => by obtain rfl : v = _ := h; rfl), (fun v W h => by obtain rfl : v = _ := h; rfl), (fun v W h => by obtain rfl : v = _ := h; rfl), (fun v W h => by obtain rfl : v = _ := h; rfl), (fun v W h => by obtain rfl : v = _ := h; rfl), (fun v W h => by obtain rfl : v = _ := h; rfl), (fun v W h => by obtain rfl : v = _ := h; rfl), (fun v W h => by obtain rfl : v = _ := h; rfl), (fun v W h => by obtain rfl : v = _ := h; rfl), (fun v W h => by obtain rfl : v = _ := h; rfl), (fun v W h => by obtain rfl : v = _ := h; rfl), (fun v W h => by obtain rfl : v = _ := h; rfl), (fun v W h => by obtain rfl : v = _ := h; rfl), (fun v W h => by obtain rfl : v = _ := h; rfl), (fun v W h => by obtain rfl : v = _ := h; rfl), (fun v W h => by obtain rfl : v = _ := h; rfl), (fun v W h => by obtain rfl : v = _ := h; rfl), (fun v W h => by obtain rfl : v = _ := h; rfl), (fun v W h => by obtain rfl : v = _ := h; rfl), (fun v W h => by obtain rfl : v = _ := h; rfl), (fun v W h => by obtain rfl : v = _ := h; rfl), (fun v W h => by obtain rfl : v = _ := h; rfl), (fun v W h => by obtain rfl : v = _ := h; rfl), (fun v W h => by obtain rfl : v = _ := h; rfl), (fun v W h => by obtain rfl : v = _ := h; rfl), trivial⟩ ⟨(fun h => Bool.noConfusion (show false = true from h)), (fun h => Bool.noConfusion (show false = true from h)), (fun h => Bool.noConfusion (show false = true from h)), (fun h => Bool.noConfusion (show false = true from h)), (fun h => Bool.noConfusion (show false = true from h)), (fun h => Bool.noConfusion (show false = true from h)), (fun h => Bool.noConfusion (show false = true from h)), (fun h => Bool.noConfusion (show false = true from h)), (fun h => Bool.noConfusion (show false = true from h)), (fun h => Bool.noConfusion (show false = true from h)), (fun h => Bool.noConfusion (show false = true from h)), (fun h => Bool.noConfusion (show false = true from h)), (fun h => Bool.noConfusion (show false = true from h)), (fun h => Bool.noConfusion (show false = true from h)), (fun h => Bool.noConfusion (show false = true from h)), (fun h => Bool.noConfusion (show false = true from h)), (fun h => Bool.noConfusion (show false = true from h)), (fun h => Bool.noConfusion (show false = true from h)), (fun h => Bool.noConfusion (show false = true from h)), (fun h => Bool.noConfusion (show false = true from h)), (fun h => Bool.noConfusion (show false = true from h)), (fun h => Bool.noConfusion (show false = true from h)), (fun h => Bool.noConfusion (show false = true from h)), (fun h => Bool.noConfusion (show false = true from h)), (fun h => Bool.noConfusion (show false = true from h)), (fun h => Bool.noConfusion (show false = true from h)), (fun h => Bool.noConfusion (show false = true from h)), (fun h => Bool.noConfusion (show false = true from h)), (fun h => Bool.noConfusion (show false = true from h)), (fun h => Bool.noConfusion (show false = true from h)), (fun h => Bool.noConfusion (show false = true from h)), (fun h => Bool.noConfusion (show false = true from h)), (fun h => Bool.noConfusion (show false = true from h)), (fun h => Bool.noConfusion (show false = true from h)), (fun h => Bool.noConfusion (show false = true from h)), (fun h => Bool.noConfusion (show false = true from h)), (fun h => Bool.noConfusion (show false = true from h)), (fun h => Bool.noConfusion (show false = true from h)), (fun h => Bool.noConfusion (show false = true from h)), (fun h => Bool.noConfusion (show false = true from h)), (fun h => Bool.noConfusion (show false = true from h)), (fun h => Bool.noConfusion (show false = true from h)), (fun h => Bool.noConfusion (show false = true from h)), (fun h => Bool.noConfusion (show false = true from h)), (fun h => Bool.noConfusion (show false = true from h)), (fun h => Bool.noConfusion (show false = true from h)), (fun h => Bool.noConfusion (show false = true from h)), (fun h => Bool.noConfusion (show false = true from h)), (fun h => Bool.noConfusion (show false = true from h)), (fun h => Bool.noConfusion (show false = true from h)), (fun h => Bool.noConfusion (show false = true from h)), (fun h => Bool.noConfusion (show false = true from h)), (fun h => Bool.noConfusion (show false = true from h)), (fun h => Bool.noConfusion (show false = true from h)), (fun h => Bool.noConfusion (show false = true from h)), trivial⟩ (fun h k => newer_trans h k) (pickD_stable _ ⟨vIs_st, vIs_st, vIs_st, vIs_st, vIs_st, vIs_st, vIs_st, vIs_st, vIs_st, vIs_st, vIs_st, vIs_st, vIs_st, vIs_st, vIs_st, vIs_st, vIs_st, vIs_st, vIs_st, vIs_st, vIs_st, vIs_st, vIs_st, vIs_st, vIs_st, vIs_st, vIs_st, vIs_st, vIs_st, vIs_st, vIs_st, vIs_st, vIs_st, vIs_st, vIs_st, vIs_st, vIs_st, vIs_st, vIs_st, vIs_st, vIs_st, vIs_st, vIs_st, vIs_st, vIs_st, vIs_st, vIs_st, vIs_st, vIs_st, vIs_st, vIs_st, vIs_st, vIs_st, vIs_st, vIs_st, trivial⟩) (Below.refl _ w4).drew (Below.refl _ _) ?_ ?_)
                    · refine ⟨.inr ?_, .inr ?_, .inr ?_, .inr ?_, .inr ?_, .inr ?_, .inr ?_, .inr ?_, .inr ?_, .inr ?_, .inr ?_, .inr ?_, .inr ?_, .inr ?_, .inr ?_, .inr ?_, .inr ?_, .inr ?_, .inr ?_, .inr ?_, .inr ?_, .inr ?_, .inr ?_, .inr ?_, .inr ?_, .inr ?_, .inr ?_, .inr ?_, .inr ?_, .inr ?_, .inr ?_, .inr ?_, .inr ?_, .inr ?_, .inr ?_, .inr ?_, .inr ?_, .inr ?_, .inr ?_, .inr ?_, .inr ?_, .inr ?_, .inr ?_, .inr ?_, .inr ?_, .inr ?_, .inr ?_, .inr ?_, .inr ?_, .inr ?_, .inr ?_, .inr ?_, .inr ?_, .inr ?_, .inr ?_, trivial⟩
                      · intro a W hG hR hO hp
                        have h6 := hO.slot 6 (by kernel_rfl)
                        refine kY (v := .pointer (some ⟨mb, 0, none⟩)) hG rfl ?_
                        simp [slotOf] at h6
                        simp [execOp, go_sem, h6]
                      · intro a W hG hR hO hp
                        have h33 : slotOf a 33 = .pointer (some ⟨mb, 0, none⟩) := hp.1
                        have c0 := keep_cell m0 hG
                        refine kY (v := vi m.1) hG rfl ?_
                        simp [slotOf] at h33
                        simp [execOp, go_sem, h33, c0]
                      · intro a W hG hR hO hp
                        have h7 := hO.slot 7 (by kernel_rfl)
                        refine kY (v := .pointer (some ⟨pb, 0, none⟩)) hG rfl ?_
                        simp [slotOf] at h7
                        simp [execOp, go_sem, h7]
                      · intro a W hG hR hO hp
                        have h35 : slotOf a 35 = .pointer (some ⟨pb, 0, none⟩) := hp.1
                        refine kY (v := .pointer (some ⟨pb, 0, none⟩)) hG rfl ?_
                        simp [slotOf] at h35
                        simp [execOp, go_sem, h35]
                      · intro a W hG hR hO hp
                        have h36 : slotOf a 36 = .pointer (some ⟨pb, 0, none⟩) := hp.1
                        have c0 := keep_cell p0 hG
                        refine kY (v := vi p.x.lo) hG rfl ?_
                        simp [slotOf] at h36
                        simp [execOp, go_sem, h36, c0]
                      · intro a W hG hR hO hp
                        have h7 := hO.slot 7 (by kernel_rfl)
                        refine kY (v := .pointer (some ⟨pb, 0, none⟩)) hG rfl ?_
                        simp [slotOf] at h7
                        simp [execOp, go_sem, h7]
                      · intro a W hG hR hO hp
                        have h38 : slotOf a 38 = .pointer (some ⟨pb, 0, none⟩) := hp.1
                        refine kY (v := .pointer (some ⟨pb, 1, none⟩)) hG rfl ?_
                        simp [slotOf] at h38
                        simp [execOp, go_sem, h38]
                      · intro a W hG hR hO hp
                        have h39 : slotOf a 39 = .pointer (some ⟨pb, 1, none⟩) := hp.1
                        have c0 := keep_cell p1 hG
                        refine kY (v := vi p.x.hi) hG rfl ?_
                        simp [slotOf] at h39
                        simp [execOp, go_sem, h39, c0]
                      · intro a W hG hR hO hp
                        have h34 : slotOf a 34 = vi m.1 := hp.1
                        have h37 : slotOf a 37 = vi p.x.lo := hp.2.1
                        have h40 : slotOf a 40 = vi p.x.hi := hp.2.2.1
                        refine wp_enters (f := 74) (args := #[vi m.1, vi p.x.lo, vi p.x.hi]) ?_ ((HW1.out W).mono ?_)
                        · simp [slotOf] at h34 h37 h40
                          simp [go_sem, h34, h37, h40]
                        · rintro e w' ⟨rfl, rfl⟩
                          exact ⟨_, rfl, _, rfl, rfl, Below.refl _ _, hG⟩
                      · intro a W hG hR hO hp
                        have h41 : slotOf a 41 = .bool true := hp.1
                        refine kY (v := .bool false) hG rfl ?_
                        simp [slotOf] at h41
                        simp [execOp, go_sem, h41]
                      · exact fun a W hG _ _ hp => kM 42 rfl hp.1 rfl hG
                      · intro a W hG hR hO hp
                        have h6 := hO.slot 6 (by kernel_rfl)
                        refine kY (v := .pointer (some ⟨mb, 1, none⟩)) hG rfl ?_
                        simp [slotOf] at h6
                        simp [execOp, go_sem, h6]
                      · intro a W hG hR hO hp
                        have h44 : slotOf a 44 = .pointer (some ⟨mb, 1, none⟩) := hp.1
                        have c0 := keep_cell m1 hG
                        refine kY (v := vi m.2) hG rfl ?_
                        simp [slotOf] at h44
                        simp [execOp, go_sem, h44, c0]
                      · intro a W hG hR hO hp
                        have h7 := hO.slot 7 (by kernel_rfl)
                        refine kY (v := .pointer (some ⟨pb, 2, none⟩)) hG rfl ?_
                        simp [slotOf] at h7
                        simp [execOp, go_sem, h7]
                      · intro a W hG hR hO hp
                        have h46 : slotOf a 46 = .pointer (some ⟨pb, 2, none⟩) := hp.1
                        refine kY (v := .pointer (some ⟨pb, 2, none⟩)) hG rfl ?_
                        simp [slotOf] at h46
                        simp [execOp, go_sem, h46]
                      · intro a W hG hR hO hp
                        have h47 : slotOf a 47 = .pointer (some ⟨pb, 2, none⟩) := hp.1
                        have c0 := keep_cell p2 hG
                        refine kY (v := vi p.y.lo) hG rfl ?_
                        simp [slotOf] at h47
                        simp [execOp, go_sem, h47, c0]
                      · intro a W hG hR hO hp
                        have h7 := hO.slot 7 (by kernel_rfl)
                        refine kY (v := .pointer (some ⟨pb, 2, none⟩)) hG rfl ?_
                        simp [slotOf] at h7
                        simp [execOp, go_sem, h7]
                      · intro a W hG hR hO hp
                        have h49 : slotOf a 49 = .pointer (some ⟨pb, 2, none⟩) := hp.1
                        refine kY (v := .pointer (some ⟨pb, 3, none⟩)) hG rfl ?_
                        simp [slotOf] at h49
                        simp [execOp, go_sem, h49]
                      · intro a W hG hR hO hp
                        have h50 : slotOf a 50 = .pointer (some ⟨pb, 3, none⟩) := hp.1
                        have c0 := keep_cell p3 hG
                        refine kY (v := vi p.y.hi) hG rfl ?_
                        simp [slotOf] at h50
                        simp [execOp, go_sem, h50, c0]
                      · intro a W hG hR hO hp
                        have h45 : slotOf a 45 = vi m.2 := hp.1
                        have h48 : slotOf a 48 = vi p.y.lo := hp.2.1
                        have h51 : slotOf a 51 = vi p.y.hi := hp.2.2.1
                        refine wp_enters (f := 74) (args := #[vi m.2, vi p.y.lo, vi p.y.hi]) ?_ ((HW2.out W).mono ?_)
                        · simp [slotOf] at h45 h48 h51
                          simp [go_sem, h45, h48, h51]
                        · rintro e w' ⟨rfl, rfl⟩
                          exact ⟨_, rfl, _, rfl, rfl, Below.refl _ _, hG⟩
                      · intro a W hG hR hO hp
                        have h52 : slotOf a 52 = .bool true := hp.1
                        refine kY (v := .bool false) hG rfl ?_
                        simp [slotOf] at h52
                        simp [execOp, go_sem, h52]
                      · intro a W hG hR hO hp
                        have h43 : slotOf a 43 = .bool false := hp.1
                        have h53 : slotOf a 53 = .bool false := hp.2.1
                        refine kY (v := .bool false) hG rfl ?_
                        simp [slotOf] at h43 h53
                        simp [execOp, go_sem, h43, h53]
                      · exact fun a W hG _ _ hp => kM 54 rfl hp.1 rfl hG
                      · exact fun a W hG _ hO _ => kM 5 rfl (hO.slot 5 (by kernel_rfl)) rfl hG
                      · intro a W hG hR hO hp
                        have h56 : slotOf a 56 = .int .i64 i := hp.1
                        refine kY (v := .bool true) hG rfl ?_
                        simp [slotOf] at h56
                        simp [execOp, go_sem, h56, hi0]
                      · exact fun a W hG _ _ hp => kM 57 rfl hp.1 rfl hG
                      · intro a W hG hR hO hp
                        have h6 := hO.slot 6 (by kernel_rfl)
                        refine kY (v := .pointer (some ⟨mb, 0, none⟩)) hG rfl ?_
                        simp [slotOf] at h6
                        simp [execOp, go_sem, h6]
                      · intro a W hG hR hO hp
                        have h59 : slotOf a 59 = .pointer (some ⟨mb, 0, none⟩) := hp.1
                        have c0 := keep_cell m0 hG
                        refine kY (v := vi m.1) hG rfl ?_
                        simp [slotOf] at h59
                        simp [execOp, go_sem, h59, c0]
                      · exact fun a W hG _ hO _ => kM 1 rfl (hO.slot 1 (by kernel_rfl)) rfl hG
                      · exact fun a W hG _ hO _ => kM 5 rfl (hO.slot 5 (by kernel_rfl)) rfl hG
                      · intro a W hG hR hO hp
                        have h62 : slotOf a 62 = .int .i64 i := hp.1
                        refine kY (v := .int .i64 j) hG rfl ?_
                        simp [slotOf] at h62
                        simp [execOp, go_sem, h62, hij]
                      · intro a W hG hR hO hp
                        have h61 : slotOf a 61 = .slice (some ⟨fb, fo, none⟩) f.length fc := hp.1
                        have h63 : slotOf a 63 = .int .i64 j := hp.2.1
                        refine kY (v := .pointer (some ⟨fb, fo + j * 2, none⟩)) hG rfl ?_
                        simp [slotOf] at h61 h63
                        simp [execOp, go_sem, h61, h63, hjf]
                      · intro a W hG hR hO hp
                        have h64 : slotOf a 64 = .pointer (some ⟨fb, fo + j * 2, none⟩) := hp.1
                        refine kY (v := .pointer (some ⟨fb, fo + j * 2, none⟩)) hG rfl ?_
                        simp [slotOf] at h64
                        simp [execOp, go_sem, h64]
                      · intro a W hG hR hO hp
                        have h65 : slotOf a 65 = .pointer (some ⟨fb, fo + j * 2, none⟩) := hp.1
                        have c0 := keep_cell o0 hG
                        refine kY (v := vi o.1) hG rfl ?_
                        simp [slotOf] at h65
                        simp [execOp, go_sem, h65, c0]
                      · intro a W hG hR hO hp
                        have h60 : slotOf a 60 = vi m.1 := hp.1
                        have h66 : slotOf a 66 = vi o.1 := hp.2.1
                        refine kY (v := vi (m.1 - o.1)) hG rfl ?_
                        simp [slotOf] at h60 h66
                        simp [execOp, go_sem, h60, h66, hwx]
                      · intro a W hG hR hO hp
                        have h67 : slotOf a 67 = vi (m.1 - o.1) := hp.1
                        refine wp_enters (f := 75) (args := #[vi (m.1 - o.1)]) ?_ ((HA1.out W).mono ?_)
                        · simp [slotOf] at h67
                          simp [go_sem, h67]
                        · rintro e w' ⟨rfl, rfl⟩
                          exact ⟨_, rfl, _, rfl, rfl, Below.refl _ _, hG⟩
                      · intro a W hG hR hO hp
                        have h2 := hO.slot 2 (by kernel_rfl)
                        refine kY (v := .pointer (some ⟨w.heap.size, 1, none⟩)) hG rfl ?_
                        simp [slotOf] at h2
                        simp [execOp, go_sem, h2]
                      · intro a W hG hR hO hp
                        have h69 : slotOf a 69 = .pointer (some ⟨w.heap.size, 1, none⟩) := hp.1
                        have c0 := keep_cell x1 hG
                        refine kY (v := vi y.s.strain) hG rfl ?_
                        simp [slotOf] at h69
                        simp [execOp, go_sem, h69, c0]
                      · intro a W hG hR hO hp
                        have h68 : slotOf a 68 = vi ax := hp.1
                        have h70 : slotOf a 70 = vi y.s.strain := hp.2.1
                        refine kY (v := .bool false) hG rfl ?_
                        simp [slotOf] at h68 h70
                        simp [execOp, go_sem, h68, h70, hqx]
                      · exact fun a W hG _ _ hp => kM 71 rfl hp.1 rfl hG
                      · intro a W hG hR hO hp
                        have h6 := hO.slot 6 (by kernel_rfl)
                        refine kY (v := .pointer (some ⟨mb, 1, none⟩)) hG rfl ?_
                        simp [slotOf] at h6
                        simp [execOp, go_sem, h6]
                      · intro a W hG hR hO hp
                        have h73 : slotOf a 73 = .pointer (some ⟨mb, 1, none⟩) := hp.1
                        have c0 := keep_cell m1 hG
                        refine kY (v := vi m.2) hG rfl ?_
                        simp [slotOf] at h73
                        simp [execOp, go_sem, h73, c0]
                      · exact fun a W hG _ hO _ => kM 1 rfl (hO.slot 1 (by kernel_rfl)) rfl hG
                      · exact fun a W hG _ hO _ => kM 5 rfl (hO.slot 5 (by kernel_rfl)) rfl hG
                      · intro a W hG hR hO hp
                        have h76 : slotOf a 76 = .int .i64 i := hp.1
                        refine kY (v := .int .i64 j) hG rfl ?_
                        simp [slotOf] at h76
                        simp [execOp, go_sem, h76, hij]
                      · intro a W hG hR hO hp
                        have h75 : slotOf a 75 = .slice (some ⟨fb, fo, none⟩) f.length fc := hp.1
                        have h77 : slotOf a 77 = .int .i64 j := hp.2.1
                        refine kY (v := .pointer (some ⟨fb, fo + j * 2, none⟩)) hG rfl ?_
                        simp [slotOf] at h75 h77
                        simp [execOp, go_sem, h75, h77, hjf]
                      · intro a W hG hR hO hp
                        have h78 : slotOf a 78 = .pointer (some ⟨fb, fo + j * 2, none⟩) := hp.1
                        refine kY (v := .pointer (some ⟨fb, fo + j * 2 + 1, none⟩)) hG rfl ?_
                        simp [slotOf] at h78
                        simp [execOp, go_sem, h78]
                      · intro a W hG hR hO hp
                        have h79 : slotOf a 79 = .pointer (some ⟨fb, fo + j * 2 + 1, none⟩) := hp.1
                        have c0 := keep_cell o1 hG
                        refine kY (v := vi o.2) hG rfl ?_
                        simp [slotOf] at h79
                        simp [execOp, go_sem, h79, c0]
                      · intro a W hG hR hO hp
                        have h74 : slotOf a 74 = vi m.2 := hp.1
                        have h80 : slotOf a 80 = vi o.2 := hp.2.1
                        refine kY (v := vi (m.2 - o.2)) hG rfl ?_
                        simp [slotOf] at h74 h80
                        simp [execOp, go_sem, h74, h80, hwy]
                      · intro a W hG hR hO hp
                        have h81 : slotOf a 81 = vi (m.2 - o.2) := hp.1
                        refine wp_enters (f := 75) (args := #[vi (m.2 - o.2)]) ?_ ((HA2.out W).mono ?_)
                        · simp [slotOf] at h81
                          simp [go_sem, h81]
                        · rintro e w' ⟨rfl, rfl⟩
                          exact ⟨_, rfl, _, rfl, rfl, Below.refl _ _, hG⟩
                      · intro a W hG hR hO hp
                        have h2 := hO.slot 2 (by kernel_rfl)
                        refine kY (v := .pointer (some ⟨w.heap.size, 1, none⟩)) hG rfl ?_
                        simp [slotOf] at h2
                        simp [execOp, go_sem, h2]
                      · intro a W hG hR hO hp
                        have h83 : slotOf a 83 = .pointer (some ⟨w.heap.size, 1, none⟩) := hp.1
                        have c0 := keep_cell x1 hG
                        refine kY (v := vi y.s.strain) hG rfl ?_
                        simp [slotOf] at h83
                        simp [execOp, go_sem, h83, c0]
                      · intro a W hG hR hO hp
                        have h82 : slotOf a 82 = vi ay := hp.1
                        have h84 : slotOf a 84 = vi y.s.strain := hp.2.1
                        refine kY (v := .bool false) hG rfl ?_
                        simp [slotOf] at h82 h84
                        simp [execOp, go_sem, h82, h84, hqy]
                      · intro a W hG hR hO hp
                        have h72 : slotOf a 72 = .bool false := hp.1
                        have h85 : slotOf a 85 = .bool false := hp.2.1
                        refine kY (v := .bool false) hG rfl ?_
                        simp [slotOf] at h72 h85
                        simp [execOp, go_sem, h72, h85]
                      · intro a W hG hR hO hp
                        have h58 : slotOf a 58 = .bool true := hp.1
                        have h86 : slotOf a 86 = .bool false := hp.2.1
                        refine kY (v := .bool false) hG rfl ?_
                        simp [slotOf] at h58 h86
                        simp [execOp, go_sem, h58, h86]
                    · intro w5 hG hR
                      rintro _ rfl _ rfl _ rfl _ rfl _ rfl _ rfl _ rfl _ rfl _ rfl _ rfl _ rfl _ rfl _ rfl _ rfl _ rfl _ rfl _ rfl _ rfl _ rfl _ rfl _ rfl _ rfl _ rfl _ rfl _ rfl _ rfl _ rfl _ rfl _ rfl _ rfl _ rfl _ rfl _ rfl _ rfl _ rfl _ rfl _ rfl _ rfl _ rfl _ rfl _ rfl _ rfl _ rfl _ rfl _ rfl _ rfl _ rfl _ rfl _ rfl _ rfl _ rfl _ rfl _ rfl _ rfl _ rfl
                      change wpList _ _ _ _ _ _
                      simp only [Act.put, List.setIfInBounds_toArray, List.set_cons_zero, List.set_cons_succ, List.drop_succ_cons, List.drop_zero]
                      have HE4 := Lib.hid (show newer w w5 ∧ Whole w5 w.heap.size 40 (smC y) from ⟨newer_trans H4.out.1 hG, H4.out.2.below hG H4.out.2.lt⟩)
                      clear hG hR hfr m0 m1 p0 p1 p2 p3 x1 o0 o1
                      go_wp2_with fail
                      go_roundw
                      case rel => exact ⟨i + 1, by omega, by go_num, HG2.out, HE4.out.1, HE4.out.2⟩
                      case measure => simp [intOf]; omega
        case neg =>
          obtain rfl : i = f.length := by omega
          have x2 := HJ.out.2.2.at 2 (v := .slice y.ta y.s.tools.length y.tc) rfl
          have HAL := Lib.hid (show (List.range f.length).all (okF y.s f) = true from all_range_ok HJ.out.1)
          have hn8 := HS.out.few
          obtain ⟨wo, hwo⟩ : ∃ wo : World, wo = wr := ⟨_, rfl⟩
          rw [← hwo] at x2 HJ ⊢
          clear hwo
          go_wp2_with fail
          clear x2
          go_loopw [8, 9, 93] (fun _ _ s93 wr => ∃ k : Nat, k ≤ y.s.tools.length ∧ s93 = vi k ∧ (∀ j, j < k → okT y.s f j = true) ∧ newer w wr ∧ Whole wr w.heap.size 40 (smC y)) (fun _ _ s93 _ => y.s.tools.length - (intOf s93).toNat)
          case atStart => exact ⟨0, Nat.zero_le _, rfl, fun j hj => absurd hj (Nat.not_lt_zero _), HJ.out.2.1, HJ.out.2.2⟩
          case round =>
            obtain ⟨k, hk, rfl, hall, hnw, hxb⟩ := hrel
            have HK := Lib.hid (And.intro hall (And.intro hnw hxb))
            clear hall hnw hxb
            by_cases hlt2 : k < y.s.tools.length
            case neg =>
              obtain rfl : k = y.s.tools.length := by omega
              have HB := Lib.hid (show res = true by
                rw [HRS.out]
                unfold proveB
                rw [HAL.out, decide_eq_true HE0.out, decide_eq_true HLE.out, all_range_ok HK.out.1]
                rfl)
              go_wp2_with fail
              go_ret
              exact ⟨ret_bool HB.out.symm, HK.out.2.1⟩
            case pos =>
              obtain ⟨t, ht⟩ : ∃ t, y.s.tools[k]? = some t := ⟨_, List.getElem?_eq_getElem hlt2⟩
              have htl := HS.out.tool t (List.mem_of_getElem? ht)
              obtain ⟨sp, hsp⟩ : ∃ q : Nat, t.spot = q := ⟨t.spot.toNat, by have := htl.spot; omega⟩
              have hsf : (sp : Int) < f.length := by have := htl.spot; have := HLE.out; omega
              obtain ⟨m, hm⟩ : ∃ m, f[sp]? = some m := ⟨_, List.getElem?_eq_getElem (by omega)⟩
              have hok : okF y.s f sp = true := HJ.out.1 sp (by omega)
              have hmb : (-30 ≤ m.1 ∧ m.1 ≤ 30) ∧ -30 ≤ m.2 ∧ m.2 ≤ 30 := by
                obtain ⟨p', hp'⟩ : ∃ p, y.s.spots[sp]? = some p := ⟨_, List.getElem?_eq_getElem (by have := HLE.out; omega)⟩
                have hpk' := HS.out.spot p' (List.mem_of_getElem? hp')
                unfold okF at hok
                rw [hm, hp'] at hok
                simp only [inB, Bool.and_eq_true, decide_eq_true_eq] at hok
                unfold rgOk at hpk'
                omega
              obtain ⟨tb0, tof, et, htb, t0, t1, t2, t3, t4, t5, t6⟩ := row7 (HOK.out.next HK.out.2.1).tl ht
              have n1 := newer_allocH wr (.cells (tlC t) 112)
              have HX := Lib.hid (show newer w (wr.alloc (.cells (tlC t) 112)) ∧ Whole (wr.alloc (.cells (tlC t) 112)) w.heap.size 40 (smC y) ∧ Whole (wr.alloc (.cells (tlC t) 112)) wr.heap.size 112 (tlC t) from ⟨newer_trans HK.out.2.1 n1, HK.out.2.2.below n1 HK.out.2.2.lt, Whole.made _ _ _⟩)
              have HT := Lib.hid (And.intro ht (And.intro hm (And.intro hsp hmb)))
              rw [et]
              clear et htb n1 ht hok htl hsp hm hmb
              go_upto_region 13 with fail
              obtain ⟨tb, htb⟩ : ∃ q, q = wr.heap.size := ⟨_, rfl⟩
              rw [← htb] at HX ⊢
              refine genQ (fun X => newer w X ∧ Whole X w.heap.size 40 (smC y) ∧ Whole X tb 112 (tlC t)) HX.out ?_
              clear HX htb t0 t1 t2 t3 t4 t5 t6
              rintro w4 ⟨g1, g2, g3⟩
              have z0 := g3.at 0 (v := vi t.spot) rfl
              rw [HT.out.2.2.1] at z0
              have x0 := g2.at 0 (v := .slice y.sa y.s.spots.length y.sc) rfl
              have x1 := g2.at 1 (v := vi y.s.strain) rfl
              have x2 := g2.at 2 (v := .slice y.ta y.s.tools.length y.tc) rfl
              have x3 := g2.at 3 (v := vi y.s.day) rfl
              have x4 := g2.at 4 (v := .slice y.ra y.s.reads.length y.rc) rfl
              obtain ⟨o0, o1⟩ := mv_at ((HF.out.below g1).more g1.size) HT.out.2.1
              have H4 := Lib.hid (And.intro g1 g2)
              have HAG := Lib.hid (fun W (hG : newer w4 W) => agrees_any y k t m none W (HOK.out.next (newer_trans H4.out.1 hG)) HS.out HT.out.1 HT.out.2.2.2.1 HT.out.2.2.2.2 (fun k hk => by cases hk))
              obtain ⟨ag, hag⟩ : ∃ q, q = agreeN t y.s.day (readAt y.s k) m none := ⟨_, rfl⟩
              rw [← hag, show koN none = 1048576 from rfl] at HAG
              have HOT : Hid (okT y.s f k = ag) := Lib.hid (by
                unfold okT
                rw [HT.out.1]
                show agreeN t y.s.day (readAt y.s k) (fnL f t.spot.toNat) none = ag
                rw [HT.out.2.2.1, Int.toNat_natCast, fnL_at HT.out.2.1, hag])
              clear g1 g2 g3 hag
              refine wp_words (by kernel_rfl) (region_told 8 (by kernel_rfl) (by kernel_rfl) (fun W => Below w4.heap.size w4 W) newer (pickD [vIs (smV y), vIs (.int .i64 k), vIs (.slice (some ⟨fb, fo, none⟩) f.length fc), vIs (.pointer (some ⟨tb, 0, none⟩)), vIs (.int .i64 sp), vIs (.pointer (some ⟨fb, fo + sp * 2, none⟩)), vIs (mvV m), vIs (.bool ag)]) (fun h k => newer_trans h k) (pickD_stable _ ⟨vIs_st, vIs_st, vIs_st, vIs_st, vIs_st, vIs_st, vIs_st, vIs_st, trivial⟩) (Below.refl _ w4).drew (Below.refl _ _) ?_ ?_)
              · refine ⟨?_, ?_, ?_, ?_, ?_, ?_, ?_, ?_, trivial⟩
                · intro a W hG hR hO hp
                  have h2 := hO.slot 2 (by kernel_rfl)
                  have c0 := keep_cell x0 hG
                  have c1 := keep_cell x1 hG
                  have c2 := keep_cell x2 hG
                  have c3 := keep_cell x3 hG
                  have c4 := keep_cell x4 hG
                  refine kY (v := smV y) hG rfl ?_
                  simp [slotOf] at h2
                  simp [execOp, go_sem, h2, c0, c1, c2, c3, c4]
                · exact fun a W hG _ hO _ => kM 8 rfl (hO.slot 8 (by kernel_rfl)) rfl hG
                · exact fun a W hG _ hO _ => kM 1 rfl (hO.slot 1 (by kernel_rfl)) rfl hG
                · intro a W hG hR hO hp
                  have h9 := hO.slot 9 (by kernel_rfl)
                  refine kY (v := .pointer (some ⟨tb, 0, none⟩)) hG rfl ?_
                  simp [slotOf] at h9
                  simp [execOp, go_sem, h9]
                · intro a W hG hR hO hp
                  have h101 : slotOf a 101 = .pointer (some ⟨tb, 0, none⟩) := hp.1
                  have c0 := keep_cell z0 hG
                  refine kY (v := .int .i64 sp) hG rfl ?_
                  simp [slotOf] at h101
                  simp [execOp, go_sem, h101, c0]
                · intro a W hG hR hO hp
                  have h100 : slotOf a 100 = .slice (some ⟨fb, fo, none⟩) f.length fc := hp.1
                  have h102 : slotOf a 102 = .int .i64 sp := hp.2.1
                  refine kY (v := .pointer (some ⟨fb, fo + sp * 2, none⟩)) hG rfl ?_
                  simp [slotOf] at h100 h102
                  simp [execOp, go_sem, h100, h102, hsf]
                · intro a W hG hR hO hp
                  have h103 : slotOf a 103 = .pointer (some ⟨fb, fo + sp * 2, none⟩) := hp.1
                  have c0 := keep_cell o0 hG
                  have c1 := keep_cell o1 hG
                  refine kY (v := mvV m) hG rfl ?_
                  simp [slotOf] at h103
                  simp [execOp, go_sem, h103, c0, c1]
                · intro a W hG hR hO hp
                  have h98 : slotOf a 98 = smV y := hp.1
                  have h99 : slotOf a 99 = .int .i64 k := hp.2.1
                  have h104 : slotOf a 104 = mvV m := hp.2.2.1
                  refine wp_enters (f := 76) (args := #[smV y, vi k, mvV m, vi 1048576]) ?_ ((HAG.out W hG).mono ?_)
                  · simp [slotOf] at h98 h99 h104
                    simp [go_sem, h98, h99, h104]
                  · rintro e w' ⟨rfl, hb⟩
                    exact ⟨_, rfl, _, rfl, rfl, hb, below_next hG hb⟩
              · intro w5 hG hR
                rintro _ rfl _ rfl _ rfl _ rfl _ rfl _ rfl _ rfl _ rfl
                change wpList _ _ _ _ _ _
                simp only [Act.put, List.setIfInBounds_toArray, List.set_cons_zero, List.set_cons_succ, List.drop_succ_cons, List.drop_zero]
                have HE4 := Lib.hid (show newer w w5 ∧ Whole w5 w.heap.size 40 (smC y) from ⟨newer_trans H4.out.1 hG, H4.out.2.below hG H4.out.2.lt⟩)
                clear hG hR z0 x0 x1 x2 x3 x4 o0 o1
                cases ag with
                | false =>
                  have HB := Lib.hid (show res = false by
                    rw [HRS.out]
                    unfold proveB
                    rw [all_range_bad hlt2 HOT.out]
                    simp)
                  go_wp2_with fail
                  go_ret
                  exact ⟨ret_bool HB.out.symm, HE4.out.1⟩
                | true =>
                  have HG2 := Lib.hid (show ∀ j, j < k + 1 → okT y.s f j = true from fun j hj => by
                    by_cases e : j = k
                    · rw [e]; exact HOT.out
                    · exact HK.out.1 j (by omega))
                  go_wp2_with fail
                  go_roundw
                  case rel => exact ⟨k + 1, by omega, by go_num, HG2.out, HE4.out.1, HE4.out.2⟩
                  case measure => simp [intOf]; omega

end Go.Proofs.Ytpmafnifgegfbaa
