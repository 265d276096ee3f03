/- What a plan adds. -/
import Derived.Test.YtpnpnfjhjjdmgaaH
namespace Go.Proofs.Ytpnpnfjhjjdmgaa
open Go.RowKit

structure PjOk (p : Pm) : Prop where
  years : 1 ≤ p.years ∧ p.years ≤ 5
  slopes : 1 ≤ p.slopes ∧ p.slopes ≤ 6
  wn : p.ws.length ≤ 8
  nn : p.ns.length ≤ 20
  vn : p.vs.length ≤ 7
  pn : (p.ps.length : Int) = p.years
  ps : ∀ n ∈ p.ps, 0 ≤ n ∧ n ≤ 1000000
  ws : ∀ x ∈ p.ws, wdB p.years p.slopes p.vs.length x.d = true
  ns : ∀ x ∈ p.ns, ndB p.years p.slopes x = true
theorem fault_ok {p : Pm} (h : faultN p.pj = 0) : PjOk p := by
  obtain ⟨years, slopes, ws, wa, wc, ns, na, nc, vs, va, vc, ps, pa, pc⟩ := p
  unfold faultN Pm.pj at h
  dsimp only at h
  rw [List.length_map] at h
  split at h
  · omega
  · split at h
    · rename_i h1 h2
      simp only [Bool.and_eq_true, decide_eq_true_eq, inB, all_map] at h2
      obtain ⟨⟨⟨⟨⟨a1, a2⟩, a3⟩, a4⟩, a5⟩, a6⟩ := h2
      refine ⟨a1, a2, by show ws.length ≤ 8; omega, by show ns.length ≤ 20; omega, by show vs.length ≤ 7; omega, a3, fun n hn => ?_, fun x hx => List.all_eq_true.1 a5 x hx, fun x hx => List.all_eq_true.1 a6 x hx⟩
      have := List.all_eq_true.1 a4 n hn
      simpa only [Bool.and_eq_true, decide_eq_true_eq] using this
    · omega
theorem plan_ok {p : Pm} {plan : List Int} (h : PjOk p) (hp : planB p.pj.works plan = true) : plan.length = p.ws.length ∧ ∀ y ∈ plan, -1 ≤ y ∧ y ≤ 4 := by
  unfold planB Pm.pj at hp
  dsimp only at hp
  rw [List.length_map, Bool.and_eq_true, decide_eq_true_eq] at hp
  refine ⟨hp.1, fun y hy => ?_⟩
  obtain ⟨k, hk⟩ := List.mem_iff_getElem?.1 hy
  have hkl := (List.getElem?_eq_some_iff.1 hk).1
  obtain ⟨x, hx⟩ := get_of_lt (l := p.ws) (k := k) (by omega)
  have := List.all_eq_true.1 hp.2 (y, x.d) (List.mem_of_getElem? (zip_at hk (by rw [List.getElem?_map, hx]; rfl)))
  simp only [okY, inB, Bool.or_eq_true, Bool.and_eq_true, decide_eq_true_eq] at this
  have hw := wdB_parts (h.ws x (List.mem_of_getElem? hx))
  have hy := h.years
  omega
def addsE (p : Pj) (plan : List Int) (slope year : Int) : Int := if checkN p plan = 0 then (if inB slope 0 (p.slopes - 1) && inB year 0 (p.years - 1) then 0 else 2) else checkN p plan
def addsV (p : Pj) (plan : List Int) (slope year : Int) : Value :=
  if addsE p plan slope year = 0 then .tuple #[.agg #[vi (togN false slope.toNat year p.works plan), vi (togN true slope.toNat year p.works plan)], vi 0] else .tuple #[.agg #[vi 0, vi 0], vi (addsE p plan slope year)]
set_option maxRecDepth 100000 in
set_option maxHeartbeats 2000000 in
theorem worksAdds_any (p : Pm) (plan : List Int) (L : Option Addr) (lp : Nat) (slope year : Int) (w : World) (hok : PmOk p w) (few : PmFew p) (hl : plan.length ≤ 1000) (hr : Row intL 1 w w.heap.size L plan) :
    Calls Try.prog 20 #[pmV p, .slice L plan.length lp, vi slope, vi year] w fun e w' => e = .returned (addsV p.pj plan slope year) ∧ newer w w' := by
  have hnw := newer_trans (newer_allocH w (.cells (pmC p) 35)) (newer_allocH (w.alloc (.cells (pmC p) 35)) (.cells #[vi 0, vi 0] 38))
  have HCK := Lib.hid (check_any p plan L lp _ (hok.next hnw) few hl ((hr.below hnw).more hnw.size))
  have hbx := (Whole.made w 35 (pmC p)).alloc (.cells #[vi 0, vi 0] 38)
  have hrx := Whole.made (w.alloc (.cells (pmC p) 35)) 38 #[vi 0, vi 0]
  simp only [World.size_alloc] at hrx
  have HW := Lib.hid (And.intro hbx (And.intro hrx hnw))
  clear hbx hrx hnw
  by_cases hc : checkN p.pj plan = 0
  · rw [hc] at HCK
    have hfz : faultN p.pj = 0 := by
      unfold checkN at hc
      by_cases hf : faultN p.pj = 0
      · exact hf
      · rw [if_neg hf] at hc; exact absurd hc hf
    have hpl : planB p.pj.works plan = true := by
      unfold checkN at hc
      rw [if_pos hfz] at hc
      cases hq : planB p.pj.works plan with
      | true => rfl
      | false => rw [hq] at hc; simp at hc
    have hpo := fault_ok hfz
    have hplo := plan_ok hpo hpl
    have HPO := Lib.hid (And.intro hpo hplo)
    have hy := hpo.years
    have hs := hpo.slopes
    have k1 : IntKind.i64.wrap (p.slopes - 1) = p.slopes - 1 := IntWalk.i64_in _ (by omega)
    have k2 : IntKind.i64.wrap (p.years - 1) = p.years - 1 := IntWalk.i64_in _ (by omega)
    have hAE : addsE p.pj plan slope year = if inB slope 0 (p.slopes - 1) && inB year 0 (p.years - 1) then 0 else 2 := by unfold addsE; rw [if_pos hc]; rfl
    unfold addsV
    rw [hAE]
    have HOK := Lib.hid hok
    have HR := Lib.hid hr
    have HFW := Lib.hid few
    clear hc hfz hpl hpo hplo hAE hok hr few hy hs
    cases q1 : inB slope 0 (p.slopes - 1)
    case false =>
      rw [if_neg (by simp), if_neg (by simp)]
      clear HPO HOK HR HFW
      go_enter Try.func20, Try.ntmps20
      go_wp2_with (first | (go_at_call 54; refine (HCK.out).mono ?_; rintro e w1 ⟨rfl, hb1⟩; have hw := (HW.out.1).below hb1 (HW.out.1).lt; have x0 := hw.at 0 (v := vi p.years) rfl; have x1 := hw.at 1 (v := vi p.slopes) rfl; clear hw; have hw2 := (HW.out.2.1).below hb1 (HW.out.2.1).lt; have HX := Lib.hid (And.intro hw2 (newer_trans HW.out.2.2 hb1)); have y0 := hw2.at 0 rfl; have y1 := hw2.at 1 rfl; have f0 := hw2.free 0; have f1 := hw2.free 1; clear hw2 hb1) | (go_at_call 48; refine (within_any _ _ _ _).mono ?_; rintro e w' ⟨rfl, rfl⟩))
      have c := (HX.out.1.set 0 (vi 0)).set 1 (vi 0)
      have k0 := c.at 0 rfl
      have k1 := c.at 1 rfl
      exact bodyPost_ret (v := .tuple #[.agg #[vi 0, vi 0], vi 2]) (by simp [results, Try.results20, go_sem, k0, k1]) rfl ⟨rfl, (HX.out.2.setCell (p := ⟨w.heap.size + 1, 0, none⟩) (by dsimp only; omega) _).setCell (p := ⟨w.heap.size + 1, 1, none⟩) (by dsimp only; omega) _⟩
    case true =>
      cases q2 : inB year 0 (p.years - 1)
      case false =>
        rw [if_neg (by simp), if_neg (by simp)]
        clear HPO HOK HR HFW
        go_enter Try.func20, Try.ntmps20
        go_wp2_with (first | (go_at_call 54; refine (HCK.out).mono ?_; rintro e w1 ⟨rfl, hb1⟩; have hw := (HW.out.1).below hb1 (HW.out.1).lt; have x0 := hw.at 0 (v := vi p.years) rfl; have x1 := hw.at 1 (v := vi p.slopes) rfl; clear hw; have hw2 := (HW.out.2.1).below hb1 (HW.out.2.1).lt; have HX := Lib.hid (And.intro hw2 (newer_trans HW.out.2.2 hb1)); have y0 := hw2.at 0 rfl; have y1 := hw2.at 1 rfl; have f0 := hw2.free 0; have f1 := hw2.free 1; clear hw2 hb1) | (go_at_call 48; refine (within_any _ _ _ _).mono ?_; rintro e w' ⟨rfl, rfl⟩))
        have c := (HX.out.1.set 0 (vi 0)).set 1 (vi 0)
        have k0 := c.at 0 rfl
        have k1 := c.at 1 rfl
        exact bodyPost_ret (v := .tuple #[.agg #[vi 0, vi 0], vi 2]) (by simp [results, Try.results20, go_sem, k0, k1]) rfl ⟨rfl, (HX.out.2.setCell (p := ⟨w.heap.size + 1, 0, none⟩) (by dsimp only; omega) _).setCell (p := ⟨w.heap.size + 1, 1, none⟩) (by dsimp only; omega) _⟩
      case true =>
        rw [if_pos (by simp)]
        have hs1 := q1
        have hy1 := q2
        simp only [inB, Bool.and_eq_true, decide_eq_true_eq] at hs1 hy1
        obtain ⟨sl, hsl⟩ : ∃ sl : Nat, slope = sl := ⟨slope.toNat, by omega⟩
        have HT : Hid (∀ (hi : Bool) W, newer w W → Calls Try.prog 55 #[pmV p, .slice L plan.length lp, vi (sl : Int), vi year, .func (.func (endG hi)) #[] #[]] W fun e w' => e = .returned (vi (togN hi sl year (p.ws.map (·.d)) plan)) ∧ newer W w') := Lib.hid fun hi W hW =>
          together_any hi p plan L lp sl year W (HOK.out.next hW) HFW.out HPO.out.2.1 ((HR.out.below hW).more hW.size) HPO.out.1.ws (by omega) hy1.1 (by have := HPO.out.1.years; omega) (fun y hy => by have := HPO.out.2.2 y hy; omega)
        have hwk : p.pj.works = p.ws.map (·.d) := rfl
        rw [hwk, show slope.toNat = sl by omega]
        subst hsl
        obtain ⟨na, hna⟩ : ∃ na, na = togN false sl year (p.ws.map (·.d)) plan := ⟨_, rfl⟩
        obtain ⟨nb, hnb⟩ : ∃ nb, nb = togN true sl year (p.ws.map (·.d)) plan := ⟨_, rfl⟩
        rw [← hna, ← hnb]
        have HVna := Lib.hid hna
        have HVnb := Lib.hid hnb
        clear hna hnb hwk HPO HOK HR HFW hs1 hy1
        go_enter Try.func20, Try.ntmps20
        go_upto_region 6 with (first | (go_at_call 54; refine (HCK.out).mono ?_; rintro e w1 ⟨rfl, hb1⟩; have hw := (HW.out.1).below hb1 (HW.out.1).lt; have x0 := hw.at 0 (v := vi p.years) rfl; have x1 := hw.at 1 (v := vi p.slopes) rfl; clear hw; have hw2 := (HW.out.2.1).below hb1 (HW.out.2.1).lt; have HX := Lib.hid (And.intro hw2 (newer_trans HW.out.2.2 hb1)); have y0 := hw2.at 0 rfl; have y1 := hw2.at 1 rfl; have f0 := hw2.free 0; have f1 := hw2.free 1; have HB1 := Lib.hid hb1; clear hw2 hb1) | (go_at_call 48; refine (within_any _ _ _ _).mono ?_; rintro e w' ⟨rfl, rfl⟩))
        refine genQ (fun X => newer w X ∧ Whole X w.heap.size 35 (pmC p) ∧ Whole X (w.heap.size + 1) 38 #[vi 0, vi 0]) ⟨HX.out.2, (HW.out.1).below HB1.out (HW.out.1).lt, HX.out.1⟩ ?_
        clear HX HB1 HW x0 x1 y0 y1 f0 f1
        rintro wv ⟨hn, hx, hr⟩
        have x0 := hx.at 0 (v := vi p.years) rfl
        have x1 := hx.at 1 (v := vi p.slopes) rfl
        have x2 := hx.at 2 (v := .slice p.wa p.ws.length p.wc) rfl
        have x3 := hx.at 3 (v := .slice p.na p.ns.length p.nc) rfl
        have x4 := hx.at 4 (v := .slice p.va p.vs.length p.vc) rfl
        have x5 := hx.at 5 (v := .slice p.pa p.ps.length p.pc) rfl
        have HB := Lib.hid (And.intro hn hr)
        clear hn hx hr
        refine wp_words (by kernel_rfl) (region_told 11 (by kernel_rfl) (by kernel_rfl) (fun W => Below wv.heap.size wv W) newer (pickD [vIs (pmV p), vIs (.slice L plan.length lp), vIs (vi (sl : Int)), vIs (vi year), vIs (vi na), vIs (pmV p), vIs (.slice L plan.length lp), vIs (vi (sl : Int)), vIs (vi year), vIs (vi nb), vIs (.agg #[vi na, vi nb])]) (fun h k => newer_trans h k) (pickD_stable _ ⟨vIs_st, vIs_st, vIs_st, vIs_st, vIs_st, vIs_st, vIs_st, vIs_st, vIs_st, vIs_st, vIs_st, trivial⟩) (Below.refl _ wv).drew (Below.refl _ _) ?_ ?_)
        · refine ⟨?_, ?_, ?_, ?_, ?_, ?_, ?_, ?_, ?_, ?_, ?_, trivial⟩
          · intro a W hG hR hO hp
            have h4 := hO.slot 4 (by kernel_rfl)
            have c0 := keep_cell x0 hG
            have c1 := keep_cell x1 hG
            have c2 := keep_cell x2 hG
            have c3 := keep_cell x3 hG
            have c4 := keep_cell x4 hG
            have c5 := keep_cell x5 hG
            refine wp_yields (v := pmV p) ?_ ⟨_, rfl, rfl, Below.refl _ _, hG⟩
            simp [slotOf] at h4
            simp [execOp, go_sem, h4, c0, c1, c2, c3, c4, c5]
          · intro a W hG hR hO hp
            have h1 := hO.slot 1 (by kernel_rfl)
            refine wp_yields (v := .slice L plan.length lp) ?_ ⟨_, rfl, rfl, Below.refl _ _, hG⟩
            simp [slotOf] at h1
            simp [execOp, go_sem, h1]
          · intro a W hG hR hO hp
            have h2 := hO.slot 2 (by kernel_rfl)
            refine wp_yields (v := vi (sl : Int)) ?_ ⟨_, rfl, rfl, Below.refl _ _, hG⟩
            simp [slotOf] at h2
            simp [execOp, go_sem, h2]
          · intro a W hG hR hO hp
            have h3 := hO.slot 3 (by kernel_rfl)
            refine wp_yields (v := vi year) ?_ ⟨_, rfl, rfl, Below.refl _ _, hG⟩
            simp [slotOf] at h3
            simp [execOp, go_sem, h3]
          · intro a W hG hR hO hp
            have h33 : slotOf a 33 = pmV p := hp.1
            have h34 : slotOf a 34 = .slice L plan.length lp := hp.2.1
            have h35 : slotOf a 35 = vi (sl : Int) := hp.2.2.1
            have h36 : slotOf a 36 = vi year := hp.2.2.2.1
            refine wp_enters (f := 55) (args := #[pmV p, .slice L plan.length lp, vi (sl : Int), vi year, .func (.func 56) #[] #[]]) ?_ ((HT.out false W (newer_trans HB.out.1 hG)).mono ?_)
            · simp [slotOf] at h33 h34 h35 h36
              simp [go_sem, h33, h34, h35, h36]
            · rintro e w' ⟨rfl, hb⟩
              exact ⟨_, rfl, _, rfl, (by show vi (togN false sl year (p.ws.map (·.d)) plan) = vi na; rw [HVna.out]), hb, below_next hG hb⟩
          · intro a W hG hR hO hp
            have h4 := hO.slot 4 (by kernel_rfl)
            have c0 := keep_cell x0 hG
            have c1 := keep_cell x1 hG
            have c2 := keep_cell x2 hG
            have c3 := keep_cell x3 hG
            have c4 := keep_cell x4 hG
            have c5 := keep_cell x5 hG
            refine wp_yields (v := pmV p) ?_ ⟨_, rfl, rfl, Below.refl _ _, hG⟩
            simp [slotOf] at h4
            simp [execOp, go_sem, h4, c0, c1, c2, c3, c4, c5]
          · intro a W hG hR hO hp
            have h1 := hO.slot 1 (by kernel_rfl)
            refine wp_yields (v := .slice L plan.length lp) ?_ ⟨_, rfl, rfl, Below.refl _ _, hG⟩
            simp [slotOf] at h1
            simp [execOp, go_sem, h1]
          · intro a W hG hR hO hp
            have h2 := hO.slot 2 (by kernel_rfl)
            refine wp_yields (v := vi (sl : Int)) ?_ ⟨_, rfl, rfl, Below.refl _ _, hG⟩
            simp [slotOf] at h2
            simp [execOp, go_sem, h2]
          · intro a W hG hR hO hp
            have h3 := hO.slot 3 (by kernel_rfl)
            refine wp_yields (v := vi year) ?_ ⟨_, rfl, rfl, Below.refl _ _, hG⟩
            simp [slotOf] at h3
            simp [execOp, go_sem, h3]
          · intro a W hG hR hO hp
            have h38 : slotOf a 38 = pmV p := hp.1
            have h39 : slotOf a 39 = .slice L plan.length lp := hp.2.1
            have h40 : slotOf a 40 = vi (sl : Int) := hp.2.2.1
            have h41 : slotOf a 41 = vi year := hp.2.2.2.1
            refine wp_enters (f := 55) (args := #[pmV p, .slice L plan.length lp, vi (sl : Int), vi year, .func (.func 57) #[] #[]]) ?_ ((HT.out true W (newer_trans HB.out.1 hG)).mono ?_)
            · simp [slotOf] at h38 h39 h40 h41
              simp [go_sem, h38, h39, h40, h41]
            · rintro e w' ⟨rfl, hb⟩
              exact ⟨_, rfl, _, rfl, (by show vi (togN true sl year (p.ws.map (·.d)) plan) = vi nb; rw [HVnb.out]), hb, below_next hG hb⟩
          · intro a W hG hR hO hp
            have h37 : slotOf a 37 = vi na := hp.1
            have h42 : slotOf a 42 = vi nb := hp.2.1
            refine wp_yields (v := .agg #[vi na, vi nb]) ?_ ⟨_, rfl, rfl, Below.refl _ _, hG⟩
            simp [slotOf] at h37 h42
            simp [execOp, go_sem, h37, h42]
        · intro W hG hR
          rintro _ rfl _ rfl _ rfl _ rfl _ rfl _ rfl _ rfl _ rfl _ rfl _ rfl _ rfl
          change wpList _ _ _ _ _ _
          simp only [Act.put, List.setIfInBounds_toArray, List.set_cons_zero, List.set_cons_succ, List.drop_succ_cons, List.drop_zero]
          have HX := Lib.hid (And.intro (HB.out.2.below hG HB.out.2.lt) (newer_trans HB.out.1 hG))
          have y0 := HX.out.1.at 0 rfl
          have y1 := HX.out.1.at 1 rfl
          have f0 := HX.out.1.free 0
          have f1 := HX.out.1.free 1
          clear hG hR HB x0 x1 x2 x3 x4 x5
          go_wp2_with fail
          have c := (HX.out.1.set 0 (vi na)).set 1 (vi nb)
          have k0 := c.at 0 rfl
          have k1 := c.at 1 rfl
          exact bodyPost_ret (v := .tuple #[.agg #[vi na, vi nb], vi 0]) (by simp [results, Try.results20, go_sem, k0, k1]) rfl ⟨rfl, (HX.out.2.setCell (p := ⟨w.heap.size + 1, 0, none⟩) (by dsimp only; omega) _).setCell (p := ⟨w.heap.size + 1, 1, none⟩) (by dsimp only; omega) _⟩
  · have hAE : addsE p.pj plan slope year = checkN p.pj plan := by unfold addsE; rw [if_neg hc]
    unfold addsV
    rw [hAE, if_neg hc]
    obtain ⟨f, hff⟩ : ∃ f, f = checkN p.pj plan := ⟨_, rfl⟩
    rw [← hff] at HCK hc ⊢
    have hfb : (f != 0) = true := by simpa using hc
    clear hc hff hAE hok few hr
    go_enter Try.func20, Try.ntmps20
    go_wp2_with (go_at_call 54; refine (HCK.out).mono ?_; rintro e w1 ⟨rfl, hb1⟩; have hw := (HW.out.1).below hb1 (HW.out.1).lt; have x0 := hw.at 0 (v := vi p.years) rfl; have x1 := hw.at 1 (v := vi p.slopes) rfl; clear hw; have hw2 := (HW.out.2.1).below hb1 (HW.out.2.1).lt; have HX := Lib.hid (And.intro hw2 (newer_trans HW.out.2.2 hb1)); have y0 := hw2.at 0 rfl; have y1 := hw2.at 1 rfl; have f0 := hw2.free 0; have f1 := hw2.free 1; clear hw2 hb1)
    have c := (HX.out.1.set 0 (vi 0)).set 1 (vi 0)
    have k0 := c.at 0 rfl
    have k1 := c.at 1 rfl
    exact bodyPost_ret (v := .tuple #[.agg #[vi 0, vi 0], vi f]) (by simp [results, Try.results20, go_sem, k0, k1]) rfl ⟨rfl, (HX.out.2.setCell (p := ⟨w.heap.size + 1, 0, none⟩) (by dsimp only; omega) _).setCell (p := ⟨w.heap.size + 1, 1, none⟩) (by dsimp only; omega) _⟩
end Go.Proofs.Ytpnpnfjhjjdmgaa
