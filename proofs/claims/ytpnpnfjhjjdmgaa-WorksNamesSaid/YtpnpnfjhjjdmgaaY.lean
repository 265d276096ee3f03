/- The error of a project, by the reference. -/
import Derived.Test.YtpnpnfjhjjdmgaaX
namespace Go.Proofs.Ytpnpnfjhjjdmgaa
open Go.RowKit Go.Deep

theorem wdB_ref (years slopes : Int) (vn : Nat) (x : Wd) : wdB years slopes vn x = (inB x.price 1 1000000 && inB x.first 0 (years - 1) && inB x.last x.first (years - 1) && inB x.age 0 1000 && inB x.village (-1) ((vn : Int) - 1) && !((x.adds.length : Int) != slopes) && x.adds.all rgB) := by
  rw [Bool.eq_iff_iff]
  simp only [wdB, inB, Bool.and_eq_true, decide_eq_true_eq, Bool.not_eq_true', bne_eq_false_iff_eq]
  constructor
  · rintro ⟨⟨⟨⟨⟨⟨⟨h1, h2⟩, h3⟩, h4⟩, h5⟩, h6⟩, h7⟩, h8⟩
    exact ⟨⟨⟨⟨⟨⟨h1, by omega⟩, by omega⟩, h5⟩, h6⟩, h7⟩, h8⟩
  · rintro ⟨⟨⟨⟨⟨⟨h1, h2⟩, h3⟩, h5⟩, h6⟩, h7⟩, h8⟩
    exact ⟨⟨⟨⟨⟨⟨⟨h1, by omega⟩, by omega⟩, by omega⟩, h5⟩, h6⟩, h7⟩, h8⟩
theorem bad1 {a b c d e f : Bool} (h : a = false) : (a && b && c && d && e && f) = false := by subst h; simp
theorem bad2 {a b c d e f : Bool} (h : b = false) : (a && b && c && d && e && f) = false := by subst h; simp
theorem bad3 {a b c d e f : Bool} (h : c = false) : (a && b && c && d && e && f) = false := by subst h; simp
theorem bad4 {a b c d e f : Bool} (h : d = false) : (a && b && c && d && e && f) = false := by subst h; simp
theorem bad5 {a b c d e f : Bool} (h : e = false) : (a && b && c && d && e && f) = false := by subst h; simp
theorem bad6 {a b c d e f : Bool} (h : f = false) : (a && b && c && d && e && f) = false := by subst h; simp
set_option maxRecDepth 100000 in
set_option maxHeartbeats 8000000 in
theorem refFault (p : Pm) (w : World) (hok : PmOk p w) (few : PmFew p) : Calls Try.prog 22 #[pmV p] w fun e w' => e = .returned (vi (faultN p.pj)) ∧ newer w w' := by
  have hbx := Whole.made w 27 (pmC p)
  have hnw := newer_allocH w (.cells (pmC p) 27)
  have HOK := Lib.hid hok
  have fw := few.ws
  have fn := few.ns
  have fv := few.vs
  have fp := few.ps
  have HAD := Lib.hid few.ad
  obtain ⟨res, hres⟩ : ∃ res, res = faultN p.pj := ⟨_, rfl⟩
  have HRS := Lib.hid hres
  rw [← hres]
  have hl : p.pj.works.length = p.ws.length := by simp [Pm.pj]
  have HL := Lib.hid hl
  have x0 := hbx.at 0 (v := vi p.years) rfl
  have x1 := hbx.at 1 (v := vi p.slopes) rfl
  have x2 := hbx.at 2 (v := .slice p.wa p.ws.length p.wc) rfl
  have x3 := hbx.at 3 (v := .slice p.na p.ns.length p.nc) rfl
  have x4 := hbx.at 4 (v := .slice p.va p.vs.length p.vc) rfl
  have x5 := hbx.at 5 (v := .slice p.pa p.ps.length p.pc) rfl
  have H0 := Lib.hid (And.intro hnw hbx)
  clear hnw hbx hok hres hl few
  by_cases g1 : 8 < p.ws.length
  case pos =>
    have i1 : (8 : Int) < p.ws.length := by omega
    have HG := Lib.hid g1
    clear g1
    go_enter Try.func22, Try.ntmps22
    have HRR : Hid (res = 3) := Lib.hid (by rw [HRS.out]; unfold faultN; rw [if_pos (.inl (by rw [HL.out]; exact HG.out))])
    have HNN := Lib.hid H0.out.1
    go_wp2_with (go_at_call 24; refine (in_any _ _ _ _).mono ?_; rintro e w' ⟨rfl, rfl⟩)
    go_ret
    exact ⟨by rw [HRR.out] <;> rfl, HNN.out⟩
  have i1 : ¬ ((8 : Int) < p.ws.length) := by omega
  by_cases g2 : 20 < p.ns.length
  case pos =>
    have i2 : (20 : Int) < p.ns.length := by omega
    have HG := Lib.hid g2
    clear g2 g1
    go_enter Try.func22, Try.ntmps22
    have HRR : Hid (res = 3) := Lib.hid (by rw [HRS.out]; unfold faultN; rw [if_pos (.inr (.inl HG.out))])
    have HNN := Lib.hid H0.out.1
    go_wp2_with (go_at_call 24; refine (in_any _ _ _ _).mono ?_; rintro e w' ⟨rfl, rfl⟩)
    go_ret
    exact ⟨by rw [HRR.out] <;> rfl, HNN.out⟩
  have i2 : ¬ ((20 : Int) < p.ns.length) := by omega
  by_cases g3 : 6 < p.vs.length
  case pos =>
    have i3 : (6 : Int) < p.vs.length := by omega
    have HG := Lib.hid g3
    clear g3 g2 g1
    go_enter Try.func22, Try.ntmps22
    have HRR : Hid (res = 3) := Lib.hid (by rw [HRS.out]; unfold faultN; rw [if_pos (.inr (.inr HG.out))])
    have HNN := Lib.hid H0.out.1
    go_wp2_with (go_at_call 24; refine (in_any _ _ _ _).mono ?_; rintro e w' ⟨rfl, rfl⟩)
    go_ret
    exact ⟨by rw [HRR.out] <;> rfl, HNN.out⟩
  have i3 : ¬ ((6 : Int) < p.vs.length) := by omega
  have hall : ∀ b : Bool, (inB p.years 1 5 && inB p.slopes 1 6 && decide ((p.ps.length : Int) = p.years) && p.ps.all (fun n => inB n 0 1000000) && p.ws.all (fun x => wdB p.years p.slopes p.vs.length x.d) && p.ns.all (ndB p.years p.slopes)) = b → res = if b = true then 0 else 1 := by
    intro b hb
    rw [HRS.out]
    unfold faultN
    rw [if_neg (by rw [HL.out]; intro h; rcases h with h | h | h; exact g1 h; exact g2 h; exact g3 h), show p.pj.works = p.ws.map (·.d) from rfl, all_map]
    have e : (inB p.pj.years 1 5 && inB p.pj.slopes 1 6 && decide ((p.pj.purses.length : Int) = p.pj.years) && p.pj.purses.all (fun n => inB n 0 1000000) && p.ws.all (fun x => wdB p.pj.years p.pj.slopes p.pj.villages.length x.d) && p.pj.needs.all (ndB p.pj.years p.pj.slopes)) = b := hb
    rw [e]
  have HR0 : Hid ((inB p.years 1 5 && inB p.slopes 1 6 && decide ((p.ps.length : Int) = p.years) && p.ps.all (fun n => inB n 0 1000000) && p.ws.all (fun x => wdB p.years p.slopes p.vs.length x.d) && p.ns.all (ndB p.years p.slopes)) = true → res = 0) := Lib.hid (hall true)
  have HR1 : Hid ((inB p.years 1 5 && inB p.slopes 1 6 && decide ((p.ps.length : Int) = p.years) && p.ps.all (fun n => inB n 0 1000000) && p.ws.all (fun x => wdB p.years p.slopes p.vs.length x.d) && p.ns.all (ndB p.years p.slopes)) = false → res = 1) := Lib.hid (hall false)
  clear hall g1 g2 g3
  cases q1 : inB p.years 1 5
  case false =>
    have HQ := Lib.hid q1
    go_enter Try.func22, Try.ntmps22
    have HRR : Hid (res = 1) := Lib.hid (HR1.out (bad1 HQ.out))
    have HNN := Lib.hid H0.out.1
    go_wp2_with (go_at_call 24; refine (in_any _ _ _ _).mono ?_; rintro e w' ⟨rfl, rfl⟩)
    go_ret
    exact ⟨by rw [HRR.out] <;> rfl, HNN.out⟩
  cases q2 : inB p.slopes 1 6
  case false =>
    have HQ := Lib.hid q2
    go_enter Try.func22, Try.ntmps22
    have HRR : Hid (res = 1) := Lib.hid (HR1.out (bad2 HQ.out))
    have HNN := Lib.hid H0.out.1
    go_wp2_with (go_at_call 24; refine (in_any _ _ _ _).mono ?_; rintro e w' ⟨rfl, rfl⟩)
    go_ret
    exact ⟨by rw [HRR.out] <;> rfl, HNN.out⟩
  have HQ12 := Lib.hid (And.intro q1 q2)
  have hyr := q1
  have hsl := q2
  simp only [inB, Bool.and_eq_true, decide_eq_true_eq] at hyr hsl
  by_cases g4 : (p.ps.length : Int) = p.years
  case neg =>
    have j4 : ((p.ps.length : Int) != p.years) = true := by rw [bne_iff_ne]; exact g4
    have HG := Lib.hid (decide_eq_false g4)
    clear g4
    go_enter Try.func22, Try.ntmps22
    have HRR : Hid (res = 1) := Lib.hid (HR1.out (bad3 HG.out))
    have HNN := Lib.hid H0.out.1
    go_wp2_with (go_at_call 24; refine (in_any _ _ _ _).mono ?_; rintro e w' ⟨rfl, rfl⟩)
    go_ret
    exact ⟨by rw [HRR.out] <;> rfl, HNN.out⟩
  have j4 : ((p.ps.length : Int) != p.years) = false := by rw [bne_eq_false_iff_eq]; exact g4
  have HG4 := Lib.hid g4
  clear g4
  go_enter Try.func22, Try.ntmps22
  go_wp2_with (go_at_call 24; refine (in_any _ _ _ _).mono ?_; rintro e w' ⟨rfl, rfl⟩)
  clear q1 q2 j4 x0 x1 x2 x3 x4 x5 i1 i2 i3
  go_loopw [3] (fun s3 wr => ∃ k : Nat, k ≤ p.ps.length ∧ s3 = .int .i64 k ∧ newer w wr ∧ Whole wr w.heap.size 27 (pmC p) ∧ early (fun n => !inB n 0 1000000) p.ps k) (fun s3 _ => p.ps.length - (intOf s3).toNat)
  case atStart => exact ⟨0, Nat.zero_le _, rfl, H0.out.1, H0.out.2, early_zero _ _⟩
  case round =>
    obtain ⟨k, hk, rfl, hbw, hbx, he⟩ := hrel
    clear H0
    have HE := Lib.hid he
    have x5 := hbx.at 5 (v := .slice p.pa p.ps.length p.pc) rfl
    clear he
    by_cases hlt : k < p.ps.length
    · have hkn : (k : Int) < p.ps.length := by omega
      obtain ⟨n, hn⟩ := get_of_lt hlt
      obtain ⟨b2, o2, e2, _, d0⟩ := row1 (HOK.out.next hbw).ps hn
      rw [e2] at x5
      have HB := Lib.hid (And.intro hbw hbx)
      have HN := Lib.hid hn
      clear hbw hbx hn e2
      cases qn : inB n 0 1000000
      · have HX := Lib.hid (all_bad (p := fun n => inB n 0 1000000) HN.out qn)
        have HRR : Hid (res = 1) := Lib.hid (HR1.out (bad4 HX.out))
        have HNN := Lib.hid HB.out.1
        go_wp2_with (go_at_call 24; refine (in_any _ _ _ _).mono ?_; rintro e w' ⟨rfl, rfl⟩)
        go_ret
        exact ⟨by rw [HRR.out] <;> rfl, HNN.out⟩
      · have HX := Lib.hid (early_succ HE.out HN.out (by rw [qn]; rfl))
        go_wp2_with (go_at_call 24; refine (in_any _ _ _ _).mono ?_; rintro e w' ⟨rfl, rfl⟩)
        go_roundw
        case rel => exact ⟨k + 1, by omega, by go_num, HB.out.1, HB.out.2, HX.out⟩
        case measure => simp [intOf]; omega
    · obtain rfl : k = p.ps.length := by omega
      have hkn : ¬ ((p.ps.length : Int) < p.ps.length) := by omega
      have HPA := Lib.hid (all_early HE.out)
      have H0 := Lib.hid (And.intro hbw hbx)
      clear hbw hbx HE
      go_wp2_with fail
      clear x5
      go_loopw [4] (fun s4 wr => ∃ k : Nat, k ≤ p.ws.length ∧ s4 = .int .i64 k ∧ newer w wr ∧ Whole wr w.heap.size 27 (pmC p) ∧ early (fun x => !wdB p.years p.slopes p.vs.length x.d) p.ws k) (fun s4 _ => p.ws.length - (intOf s4).toNat)
      case atStart => exact ⟨0, Nat.zero_le _, rfl, H0.out.1, H0.out.2, early_zero _ _⟩
      case round =>
        obtain ⟨k, hk, rfl, hbw, hbx, he⟩ := hrel
        clear H0
        have HE := Lib.hid he
        have x2 := hbx.at 2 (v := .slice p.wa p.ws.length p.wc) rfl
        clear he
        obtain ⟨wo, hwo⟩ : ∃ wo : World, wo = wr := ⟨_, rfl⟩
        rw [← hwo] at hbw hbx x2 ⊢
        clear hwo wr
        by_cases hlt : k < p.ws.length
        · have hkn : (k : Int) < p.ws.length := by omega
          obtain ⟨x, hx⟩ := get_of_lt hlt
          obtain ⟨b2, o2, e2, _, d0, d1, d2, d3, d4, d5⟩ := row6 (HOK.out.next hbw).ws hx
          rw [e2] at x2
          have HB0 := Lib.hid (And.intro hbw hbx)
          have HX := Lib.hid hx
          have hal := HAD.out x (List.mem_of_getElem? hx)
          clear hbw hbx hx e2
          go_upto_region 14 with fail
          refine genQ (fun X => newer wo X ∧ Whole X wo.heap.size 63 (wkC x)) ⟨newer_allocH _ _, Whole.made _ _ _⟩ ?_
          obtain ⟨xb, hxb⟩ : ∃ xb, xb = wo.heap.size := ⟨_, rfl⟩
          rw [← hxb]
          clear hxb d0 d1 d2 d3 d4 d5 x2
          rintro wv ⟨hn, hwx⟩
          have HB := Lib.hid (And.intro (newer_trans HB0.out.1 hn) (And.intro (HB0.out.2.below hn HB0.out.2.lt) hwx))
          have d0 := hwx.at 0 (v := vi x.d.price) rfl
          have d1 := hwx.at 1 (v := vi x.d.first) rfl
          have d2 := hwx.at 2 (v := vi x.d.last) rfl
          have d3 := hwx.at 3 (v := vi x.d.age) rfl
          have d4 := hwx.at 4 (v := vi x.d.village) rfl
          have d5 := hwx.at 5 (v := .slice x.a x.d.adds.length x.cp) rfl
          have x0 := HB.out.2.1.at 0 (v := vi p.years) rfl
          have x1 := HB.out.2.1.at 1 (v := vi p.slopes) rfl
          have x2 := HB.out.2.1.at 2 (v := .slice p.wa p.ws.length p.wc) rfl
          have x3 := HB.out.2.1.at 3 (v := .slice p.na p.ns.length p.nc) rfl
          have x4 := HB.out.2.1.at 4 (v := .slice p.va p.vs.length p.vc) rfl
          have x5 := HB.out.2.1.at 5 (v := .slice p.pa p.ps.length p.pc) rfl
          clear hn hwx HB0
          have wy : IntKind.i64.wrap (p.years - 1) = p.years - 1 := IntWalk.i64_in _ (by omega)
          have wv1 : IntKind.i64.wrap ((p.vs.length : Int) - 1) = (p.vs.length : Int) - 1 := IntWalk.i64_in _ (by omega)
          cases a1 : inB x.d.price 1 1000000
          case false =>
            have HX2 := Lib.hid (all_bad (p := fun x : Wk => wdB p.years p.slopes p.vs.length x.d) HX.out (show wdB p.years p.slopes p.vs.length x.d = false by rw [wdB_ref, a1]; simp))
            have HRR : Hid (res = 1) := Lib.hid (HR1.out (bad5 HX2.out))
            have HNN := Lib.hid HB.out.1
            go_wp2_with (go_at_call 24; refine (in_any _ _ _ _).mono ?_; rintro e w' ⟨rfl, rfl⟩)
            go_ret
            exact ⟨by rw [HRR.out] <;> rfl, HNN.out⟩
          cases a2 : inB x.d.first 0 (p.years - 1)
          case false =>
            have HX2 := Lib.hid (all_bad (p := fun x : Wk => wdB p.years p.slopes p.vs.length x.d) HX.out (show wdB p.years p.slopes p.vs.length x.d = false by rw [wdB_ref, a1, a2]; simp))
            have HRR : Hid (res = 1) := Lib.hid (HR1.out (bad5 HX2.out))
            have HNN := Lib.hid HB.out.1
            go_wp2_with (go_at_call 24; refine (in_any _ _ _ _).mono ?_; rintro e w' ⟨rfl, rfl⟩)
            go_ret
            exact ⟨by rw [HRR.out] <;> rfl, HNN.out⟩
          cases a3 : inB x.d.last x.d.first (p.years - 1)
          case false =>
            have HX2 := Lib.hid (all_bad (p := fun x : Wk => wdB p.years p.slopes p.vs.length x.d) HX.out (show wdB p.years p.slopes p.vs.length x.d = false by rw [wdB_ref, a1, a2, a3]; simp))
            have HRR : Hid (res = 1) := Lib.hid (HR1.out (bad5 HX2.out))
            have HNN := Lib.hid HB.out.1
            go_wp2_with (go_at_call 24; refine (in_any _ _ _ _).mono ?_; rintro e w' ⟨rfl, rfl⟩)
            go_ret
            exact ⟨by rw [HRR.out] <;> rfl, HNN.out⟩
          cases a4 : inB x.d.age 0 1000
          case false =>
            have HX2 := Lib.hid (all_bad (p := fun x : Wk => wdB p.years p.slopes p.vs.length x.d) HX.out (show wdB p.years p.slopes p.vs.length x.d = false by rw [wdB_ref, a1, a2, a3, a4]; simp))
            have HRR : Hid (res = 1) := Lib.hid (HR1.out (bad5 HX2.out))
            have HNN := Lib.hid HB.out.1
            go_wp2_with (go_at_call 24; refine (in_any _ _ _ _).mono ?_; rintro e w' ⟨rfl, rfl⟩)
            go_ret
            exact ⟨by rw [HRR.out] <;> rfl, HNN.out⟩
          cases a5 : inB x.d.village (-1) ((p.vs.length : Int) - 1)
          case false =>
            have HX2 := Lib.hid (all_bad (p := fun x : Wk => wdB p.years p.slopes p.vs.length x.d) HX.out (show wdB p.years p.slopes p.vs.length x.d = false by rw [wdB_ref, a1, a2, a3, a4, a5]; simp))
            have HRR : Hid (res = 1) := Lib.hid (HR1.out (bad5 HX2.out))
            have HNN := Lib.hid HB.out.1
            go_wp2_with (go_at_call 24; refine (in_any _ _ _ _).mono ?_; rintro e w' ⟨rfl, rfl⟩)
            go_ret
            exact ⟨by rw [HRR.out] <;> rfl, HNN.out⟩
          cases a6 : ((x.d.adds.length : Int) != p.slopes)
          case true =>
            have HX2 := Lib.hid (all_bad (p := fun x : Wk => wdB p.years p.slopes p.vs.length x.d) HX.out (show wdB p.years p.slopes p.vs.length x.d = false by rw [wdB_ref, a1, a2, a3, a4, a5, a6]; simp))
            have HRR : Hid (res = 1) := Lib.hid (HR1.out (bad5 HX2.out))
            have HNN := Lib.hid HB.out.1
            go_wp2_with (go_at_call 24; refine (in_any _ _ _ _).mono ?_; rintro e w' ⟨rfl, rfl⟩)
            go_ret
            exact ⟨by rw [HRR.out] <;> rfl, HNN.out⟩
          have HWD : Hid (wdB p.years p.slopes p.vs.length x.d = x.d.adds.all rgB) := Lib.hid (by rw [wdB_ref, a1, a2, a3, a4, a5, a6]; rfl)
          go_wp2_with (go_at_call 24; refine (in_any _ _ _ _).mono ?_; rintro e w' ⟨rfl, rfl⟩)
          clear a1 a2 a3 a4 a5 a6 wy wv1 d0 d1 d2 d3 d4 d5 x0 x1 x2 x3 x4 x5
          go_loopw [6] (fun s6 wr => ∃ j : Nat, j ≤ x.d.adds.length ∧ s6 = .int .i64 j ∧ newer w wr ∧ Whole wr w.heap.size 27 (pmC p) ∧ Whole wr xb 63 (wkC x) ∧ early (fun r => !rgB r) x.d.adds j) (fun s6 _ => x.d.adds.length - (intOf s6).toNat)
          case atStart => exact ⟨0, Nat.zero_le _, rfl, HB.out.1, HB.out.2.1, HB.out.2.2, early_zero _ _⟩
          case round =>
            obtain ⟨j, hj, rfl, hbw, hbx, hwx, he⟩ := hrel
            clear HB
            have HE2 := Lib.hid he
            have d5 := hwx.at 5 (v := .slice x.a x.d.adds.length x.cp) rfl
            clear he
            by_cases hlt2 : j < x.d.adds.length
            · have hjn : (j : Int) < x.d.adds.length := by omega
              obtain ⟨r, hr⟩ := get_of_lt hlt2
              obtain ⟨b3, o3, e3, _, c0, c1⟩ := row2 ((HOK.out.next hbw).ad x (List.mem_of_getElem? HX.out)) hr
              rw [e3] at d5
              have HB := Lib.hid (And.intro hbw (And.intro hbx hwx))
              have HRG := Lib.hid hr
              clear hbw hbx hwx hr e3
              by_cases t1 : r.lo < 0
              case pos =>
                have HT := Lib.hid (show rgB r = false by simp [rgB]; omega)
                have HX2 := Lib.hid (all_bad (p := fun x : Wk => wdB p.years p.slopes p.vs.length x.d) HX.out (show wdB p.years p.slopes p.vs.length x.d = false by rw [HWD.out, all_bad HRG.out HT.out]))
                have HRR : Hid (res = 1) := Lib.hid (HR1.out (bad5 HX2.out))
                have HNN := Lib.hid (newer_trans HB.out.1 (newer_allocH wr (.cells #[vi r.lo, vi r.hi] 65)))
                go_wp2_with (go_at_call 24; refine (in_any _ _ _ _).mono ?_; rintro e w' ⟨rfl, rfl⟩)
                go_ret
                exact ⟨by rw [HRR.out] <;> rfl, HNN.out⟩
              by_cases t2 : r.hi < r.lo
              case pos =>
                have HT := Lib.hid (show rgB r = false by simp [rgB]; omega)
                have HX2 := Lib.hid (all_bad (p := fun x : Wk => wdB p.years p.slopes p.vs.length x.d) HX.out (show wdB p.years p.slopes p.vs.length x.d = false by rw [HWD.out, all_bad HRG.out HT.out]))
                have HRR : Hid (res = 1) := Lib.hid (HR1.out (bad5 HX2.out))
                have HNN := Lib.hid (newer_trans HB.out.1 (newer_allocH wr (.cells #[vi r.lo, vi r.hi] 65)))
                go_wp2_with (go_at_call 24; refine (in_any _ _ _ _).mono ?_; rintro e w' ⟨rfl, rfl⟩)
                go_ret
                exact ⟨by rw [HRR.out] <;> rfl, HNN.out⟩
              by_cases t3 : 10000 < r.hi
              case pos =>
                have HT := Lib.hid (show rgB r = false by simp [rgB]; omega)
                have HX2 := Lib.hid (all_bad (p := fun x : Wk => wdB p.years p.slopes p.vs.length x.d) HX.out (show wdB p.years p.slopes p.vs.length x.d = false by rw [HWD.out, all_bad HRG.out HT.out]))
                have HRR : Hid (res = 1) := Lib.hid (HR1.out (bad5 HX2.out))
                have HNN := Lib.hid (newer_trans HB.out.1 (newer_allocH wr (.cells #[vi r.lo, vi r.hi] 65)))
                go_wp2_with (go_at_call 24; refine (in_any _ _ _ _).mono ?_; rintro e w' ⟨rfl, rfl⟩)
                go_ret
                exact ⟨by rw [HRR.out] <;> rfl, HNN.out⟩
              have HX2 := Lib.hid (early_succ HE2.out HRG.out (show (!rgB r) = false by simp [rgB]; omega))
              have HB2 := Lib.hid (And.intro (newer_trans HB.out.1 (newer_allocH wr (.cells #[vi r.lo, vi r.hi] 65))) (And.intro (HB.out.2.1.alloc (.cells #[vi r.lo, vi r.hi] 65)) (HB.out.2.2.alloc (.cells #[vi r.lo, vi r.hi] 65))))
              go_wp2_with fail
              go_roundw
              case rel => exact ⟨j + 1, by omega, by go_num, HB2.out.1, HB2.out.2.1, HB2.out.2.2, HX2.out⟩
              case measure => simp [intOf]; omega
            · obtain rfl : j = x.d.adds.length := by omega
              have hjn : ¬ ((x.d.adds.length : Int) < x.d.adds.length) := by omega
              have HX2 := Lib.hid (early_succ HE.out HX.out (show (!wdB p.years p.slopes p.vs.length x.d) = false by rw [HWD.out, all_early HE2.out]; rfl))
              have HB := Lib.hid (And.intro hbw hbx)
              clear hbw hbx hwx
              go_wp2_with fail
              go_roundw
              case rel => exact ⟨k + 1, by omega, by go_num, HB.out.1, HB.out.2, HX2.out⟩
              case measure => simp [intOf]; omega
        · obtain rfl : k = p.ws.length := by omega
          have hkn : ¬ ((p.ws.length : Int) < p.ws.length) := by omega
          have HWA := Lib.hid (all_early HE.out)
          have H0 := Lib.hid (And.intro hbw hbx)
          clear hbw hbx HE
          go_wp2_with fail
          clear x2
          go_loopw [8] (fun s8 wr => ∃ k : Nat, k ≤ p.ns.length ∧ s8 = .int .i64 k ∧ newer w wr ∧ Whole wr w.heap.size 27 (pmC p) ∧ early (fun n => !ndB p.years p.slopes n) p.ns k) (fun s8 _ => p.ns.length - (intOf s8).toNat)
          case atStart => exact ⟨0, Nat.zero_le _, rfl, H0.out.1, H0.out.2, early_zero _ _⟩
          case round =>
            obtain ⟨k, hk, rfl, hbw, hbx, he⟩ := hrel
            clear H0
            have HE := Lib.hid he
            have x0 := hbx.at 0 (v := vi p.years) rfl
            have x1 := hbx.at 1 (v := vi p.slopes) rfl
            have x3 := hbx.at 3 (v := .slice p.na p.ns.length p.nc) rfl
            clear he
            by_cases hlt : k < p.ns.length
            · have hkn : (k : Int) < p.ns.length := by omega
              obtain ⟨n, hn⟩ := get_of_lt hlt
              obtain ⟨b2, o2, e2, _, c0, c1, c2⟩ := row3 (HOK.out.next hbw).ns hn
              rw [e2] at x3
              have HB := Lib.hid (And.intro (newer_trans hbw (newer_allocH wr (.cells #[vi n.slope, vi n.year, vi n.due] 60))) (hbx.alloc (.cells #[vi n.slope, vi n.year, vi n.due] 60)))
              have HN := Lib.hid hn
              have wy : IntKind.i64.wrap (p.years - 1) = p.years - 1 := IntWalk.i64_in _ (by omega)
              have ws1 : IntKind.i64.wrap (p.slopes - 1) = p.slopes - 1 := IntWalk.i64_in _ (by omega)
              have y0 := (hbx.alloc (.cells #[vi n.slope, vi n.year, vi n.due] 60)).at 0 (v := vi p.years) rfl
              have y1 := (hbx.alloc (.cells #[vi n.slope, vi n.year, vi n.due] 60)).at 1 (v := vi p.slopes) rfl
              clear hbw hbx hn e2
              cases b1 : inB n.slope 0 (p.slopes - 1)
              case false =>
                have HX2 := Lib.hid (all_bad HN.out (show ndB p.years p.slopes n = false by unfold ndB; rw [b1]; rfl))
                have HRR : Hid (res = 1) := Lib.hid (HR1.out (bad6 HX2.out))
                have HNN := Lib.hid HB.out.1
                go_wp2_with (go_at_call 24; refine (in_any _ _ _ _).mono ?_; rintro e w' ⟨rfl, rfl⟩)
                go_ret
                exact ⟨by rw [HRR.out] <;> rfl, HNN.out⟩
              cases b2' : inB n.year 0 (p.years - 1)
              case false =>
                have HX2 := Lib.hid (all_bad HN.out (show ndB p.years p.slopes n = false by unfold ndB; rw [b1, b2']; rfl))
                have HRR : Hid (res = 1) := Lib.hid (HR1.out (bad6 HX2.out))
                have HNN := Lib.hid HB.out.1
                go_wp2_with (go_at_call 24; refine (in_any _ _ _ _).mono ?_; rintro e w' ⟨rfl, rfl⟩)
                go_ret
                exact ⟨by rw [HRR.out] <;> rfl, HNN.out⟩
              cases b3' : inB n.due 1 10000
              case false =>
                have HX2 := Lib.hid (all_bad HN.out (show ndB p.years p.slopes n = false by unfold ndB; rw [b1, b2', b3']; rfl))
                have HRR : Hid (res = 1) := Lib.hid (HR1.out (bad6 HX2.out))
                have HNN := Lib.hid HB.out.1
                go_wp2_with (go_at_call 24; refine (in_any _ _ _ _).mono ?_; rintro e w' ⟨rfl, rfl⟩)
                go_ret
                exact ⟨by rw [HRR.out] <;> rfl, HNN.out⟩
              have HX2 := Lib.hid (early_succ HE.out HN.out (show (!ndB p.years p.slopes n) = false by unfold ndB; rw [b1, b2', b3']; rfl))
              go_wp2_with (go_at_call 24; refine (in_any _ _ _ _).mono ?_; rintro e w' ⟨rfl, rfl⟩)
              go_roundw
              case rel => exact ⟨k + 1, by omega, by go_num, HB.out.1, HB.out.2, HX2.out⟩
              case measure => simp [intOf]; omega
            · obtain rfl : k = p.ns.length := by omega
              have hkn : ¬ ((p.ns.length : Int) < p.ns.length) := by omega
              have HNA := Lib.hid (all_early HE.out)
              have HRR : Hid (res = 0) := Lib.hid (HR0.out (by rw [HQ12.out.1, HQ12.out.2, HPA.out, HWA.out, HNA.out, decide_eq_true HG4.out]; rfl))
              have HNN := Lib.hid hbw
              clear hbw hbx HE
              go_wp2_with fail
              go_ret
              exact ⟨by rw [HRR.out] <;> rfl, HNN.out⟩
end Go.Proofs.Ytpnpnfjhjjdmgaa
