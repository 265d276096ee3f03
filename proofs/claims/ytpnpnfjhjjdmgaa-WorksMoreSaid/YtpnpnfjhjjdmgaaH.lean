/- What all works of a plan add to a slope in a year. -/
import Derived.Test.YtpnpnfjhjjdmgaaF
namespace Go.Proofs.Ytpnpnfjhjjdmgaa
open Go.RowKit

theorem wdB_parts {years slopes : Int} {vn : Nat} {x : Wd} (h : wdB years slopes vn x = true) : (1 ≤ x.price ∧ x.price ≤ 1000000) ∧ (0 ≤ x.first ∧ x.first ≤ x.last ∧ x.last < years) ∧ (0 ≤ x.age ∧ x.age ≤ 1000) ∧ (-1 ≤ x.village ∧ x.village ≤ (vn : Int) - 1) ∧ (x.adds.length : Int) = slopes ∧ ∀ r ∈ x.adds, 0 ≤ r.lo ∧ r.lo ≤ r.hi ∧ r.hi ≤ 10000 := by
  simp only [wdB, inB, Bool.and_eq_true, decide_eq_true_eq] at h
  obtain ⟨⟨⟨⟨⟨⟨⟨h1, h2⟩, h3⟩, h4⟩, h5⟩, h6⟩, h7⟩, h8⟩ := h
  refine ⟨h1, ⟨h2, h3, h4⟩, h5, h6, h7, fun r hr => ?_⟩
  have := List.all_eq_true.1 h8 r hr
  simp only [rgB, Bool.and_eq_true, decide_eq_true_eq] at this
  exact ⟨this.1.1, this.1.2, this.2⟩
theorem endR_bd {hi : Bool} {r : Rg} (h : 0 ≤ r.lo ∧ r.lo ≤ r.hi ∧ r.hi ≤ 10000) : 0 ≤ endR hi r ∧ endR hi r ≤ 10000 := by
  cases hi <;> simp only [endR, if_true, if_false, Bool.false_eq_true] <;> omega
theorem rAt_of {l : List Rg} {k : Nat} {r : Rg} (h : l[k]? = some r) : rAt l k = r := by unfold rAt; rw [h]; rfl
theorem togL_bd {hi : Bool} {sl : Nat} {year : Int} {ws : List Wd} {plan : List Int} {years slopes : Int} {vn : Nat} (hv : ∀ x ∈ ws, wdB years slopes vn x = true) (hsl : (sl : Int) < slopes) : ∀ z ∈ togL hi sl year ws plan, 0 ≤ z ∧ z ≤ 10000 := by
  intro z hz
  obtain ⟨q, hq, rfl⟩ := List.mem_map.1 hz
  have hw := wdB_parts (hv q.2 (List.of_mem_zip hq).2)
  obtain ⟨r, hr⟩ := get_of_lt (l := q.2.adds) (k := sl) (by have := hw.2.2.2.2.1; omega)
  rw [rAt_of hr]
  have hb := endR_bd (hi := hi) (hw.2.2.2.2.2 r (List.mem_of_getElem? hr))
  exact addsN_bd hb.1 hb.2 hw.2.2.1.1
set_option maxRecDepth 100000 in
set_option maxHeartbeats 2000000 in
theorem together_any (hi : Bool) (p : Pm) (plan : List Int) (L : Option Addr) (lp sl : Nat) (year : Int) (w : World) (hok : PmOk p w) (few : PmFew p) (hl : plan.length = p.ws.length) (hr : Row intL 1 w w.heap.size L plan)
    (hval : ∀ x ∈ p.ws, wdB p.years p.slopes p.vs.length x.d = true) (hsl : (sl : Int) < p.slopes) (hy0 : 0 ≤ year) (hy1 : year ≤ 1000) (hplan : ∀ y ∈ plan, -1 ≤ y ∧ y ≤ 1000) :
    Calls Try.prog 55 #[pmV p, .slice L plan.length lp, vi (sl : Int), vi year, .func (.func (endG hi)) #[] #[]] w fun e w' => e = .returned (vi (togN hi sl year (p.ws.map (·.d)) plan)) ∧ newer w w' := by
  unfold togN
  have hnw := newer_allocH w (.cells (pmC p) 35)
  have hbd := togL_bd (hi := hi) (year := year) (plan := plan) (ws := p.ws.map (·.d)) (years := p.years) (vn := p.vs.length) (fun x hx => by
    obtain ⟨k, hk, rfl⟩ := List.mem_map.1 hx
    exact hval k hk) hsl
  have hTlen : (togL hi sl year (p.ws.map (·.d)) plan).length = p.ws.length := by
    unfold togL
    rw [List.length_map, List.length_zip, List.length_map]
    omega
  have HT : Hid (∀ (k : Nat) (y : Int) (x : Wk) (r : Rg), plan[k]? = some y → p.ws[k]? = some x → x.d.adds[sl]? = some r → (togL hi sl year (p.ws.map (·.d)) plan)[k]? = some (addsN x.d y year (endR hi r))) := Lib.hid (by
    intro k y x r h1 h2 h3
    unfold togL
    rw [List.getElem?_map, zip_at h1 (by rw [List.getElem?_map, h2]; rfl : (p.ws.map (·.d))[k]? = some x.d)]
    simp only [Option.map_some, rAt_of h3])
  have HSB := Lib.hid (sum_bd (l := togL hi sl year (p.ws.map (·.d)) plan) (fun x hx => by have := hbd x hx; omega))
  generalize togL hi sl year (p.ws.map (·.d)) plan = tl at HT HSB hTlen ⊢
  have HLE := Lib.hid (And.intro hl hTlen)
  have HOK := Lib.hid hok
  have HR := Lib.hid hr
  have HFW := Lib.hid few.ws
  have HVAL := Lib.hid hval
  have HPLAN := Lib.hid hplan
  have HBX := Lib.hid (Whole.made w 35 (pmC p))
  have HSL := Lib.hid hsl
  clear hok hr few hl hTlen hbd hval hplan hsl
  go_enter Try.func55, Try.ntmps55
  go_wp2_with fail
  obtain ⟨wa, hwa⟩ : ∃ wa, wa = p.wa := ⟨_, rfl⟩
  rw [← hwa]
  have HWA := Lib.hid hwa
  clear hwa
  go_loopw [10, 16] (fun s10 s16 wr => ∃ k : Nat, k ≤ p.ws.length ∧ s16 = .int .i64 k ∧ s10 = vi (tl.take k).sum ∧ newer w wr ∧ Whole wr w.heap.size 35 (pmC p)) (fun _ s16 _ => p.ws.length - (intOf s16).toNat)
  case atStart => exact ⟨0, Nat.zero_le _, rfl, rfl, hnw, HBX.out⟩
  case round =>
    obtain ⟨k, hk, rfl, rfl, hbw, hbx⟩ := hrel
    clear HBX
    by_cases hlt : k < p.ws.length
    · have hkn : (k : Int) < p.ws.length := by omega
      have hkp : (k : Int) < plan.length := by have := HLE.out.1; omega
      obtain ⟨x, hx⟩ := get_of_lt hlt
      obtain ⟨y, hy⟩ := get_of_lt (l := plan) (k := k) (by omega)
      have hw := wdB_parts (HVAL.out x (List.mem_of_getElem? hx))
      obtain ⟨r, hrr⟩ := get_of_lt (l := x.d.adds) (k := sl) (by have := hw.2.2.2.2.1; have := HSL.out; omega)
      have hbr := endR_bd (hi := hi) (hw.2.2.2.2.2 r (List.mem_of_getElem? hrr))
      have hby := HPLAN.out y (List.mem_of_getElem? hy)
      have htk := HT.out k y x r hy hx hrr
      have HADD : Hid (∀ W, newer wr W → Calls Try.prog 79 #[wkV x, vi y, vi (sl : Int), vi year, .func (.func (endG hi)) #[] #[]] W fun e w' => e = .returned (vi (addsN x.d y year (endR hi r))) ∧ newer W w') :=
        Lib.hid fun W hW => adds_any hi x y year sl r W hrr (((HOK.out.next hbw).next hW).ad x (List.mem_of_getElem? hx)) hw.2.2.1.1 hw.2.2.1.2 hbr.1 hbr.2 hby.1 hby.2 hy0 hy1
      obtain ⟨ad, had⟩ : ∃ ad, ad = addsN x.d y year (endR hi r) := ⟨_, rfl⟩
      rw [← had] at HADD htk
      have HAD := HADD
      have hs := sum_take htk
      have h1 := HSB.out k
      have h2 := HSB.out (k + 1)
      have h3 := HFW.out
      obtain ⟨acc, hacc⟩ : ∃ acc, acc = (tl.take k).sum := ⟨_, rfl⟩
      obtain ⟨nx, hnx⟩ : ∃ nx, nx = (tl.take (k + 1)).sum := ⟨_, rfl⟩
      rw [← hacc, ← hnx] at hs
      rw [← hacc] at h1 ⊢
      rw [← hnx] at h2
      have enx : IntKind.i64.wrap (acc + ad) = nx := by rw [← hs]; exact IntWalk.i64_in _ (by push_cast at h2; omega)
      have HNX := Lib.hid hnx
      obtain ⟨b1, o1, e1, _, c1⟩ := row1 (HR.out.below hbw) hy
      obtain ⟨b2, o2, e2, _, d0, d1, d2, d3, d4, d5⟩ := row6 (HOK.out.next hbw).ws hx
      subst e1
      have e3 := HWA.out.trans e2
      clear e2 HWA
      subst e3
      have HBW := Lib.hid (And.intro hbw hbx)
      clear hx hy hw hrr hbr hby htk had hs h1 h2 h3 hacc hnx hbw hbx HADD
      go_upto_region 4 with fail
      refine genQ (fun X => newer wr X ∧ Whole X wr.heap.size 87 (wkC x)) ⟨newer_allocH _ _, Whole.made _ _ _⟩ ?_
      rintro wv ⟨hn, hwx⟩
      have z0 := hwx.at 0 (v := vi x.d.price) rfl
      have z1 := hwx.at 1 (v := vi x.d.first) rfl
      have z2 := hwx.at 2 (v := vi x.d.last) rfl
      have z3 := hwx.at 3 (v := vi x.d.age) rfl
      have z4 := hwx.at 4 (v := vi x.d.village) rfl
      have z5 := hwx.at 5 (v := .slice x.a x.d.adds.length x.cp) rfl
      have c1 := keep_cell c1 hn
      have HB := Lib.hid (And.intro hn hwx)
      clear hn hwx d0 d1 d2 d3 d4 d5
      refine wp_words (by kernel_rfl) (region_told 11 (by kernel_rfl) (by kernel_rfl) (fun W => Below wv.heap.size wv W) newer (pickD [vIs (vi acc), vIs (wkV x), vIs (.slice (some ⟨b1, o1, none⟩) plan.length lp), vIs (.int .i64 k), vIs (.pointer (some ⟨b1, o1 + k, none⟩)), vIs (vi y), vIs (vi (sl : Int)), vIs (vi year), vIs (.func (.func (endG hi)) #[] #[]), vIs (vi ad), vIs (vi nx)]) (fun h k => newer_trans h k) (pickD_stable _ ⟨vIs_st, vIs_st, vIs_st, vIs_st, vIs_st, vIs_st, vIs_st, vIs_st, vIs_st, vIs_st, vIs_st, trivial⟩) (Below.refl _ wv).drew (Below.refl _ _) ?_ ?_)
      · refine ⟨?_, ?_, ?_, ?_, ?_, ?_, ?_, ?_, ?_, ?_, ?_, trivial⟩
        · intro a W hG hR hO hp
          have h10 := hO.slot 10 (by kernel_rfl)
          refine wp_yields (v := vi acc) ?_ ⟨_, rfl, rfl, Below.refl _ _, hG⟩
          simp [slotOf] at h10
          simp [execOp, go_sem, h10]
        · intro a W hG hR hO hp
          have h12 := hO.slot 12 (by kernel_rfl)
          have c0 := keep_cell z0 hG
          have c1 := keep_cell z1 hG
          have c2 := keep_cell z2 hG
          have c3 := keep_cell z3 hG
          have c4 := keep_cell z4 hG
          have c5 := keep_cell z5 hG
          refine wp_yields (v := wkV x) ?_ ⟨_, rfl, rfl, Below.refl _ _, hG⟩
          simp [slotOf] at h12
          simp [execOp, go_sem, h12, c0, c1, c2, c3, c4, c5]
        · intro a W hG hR hO hp
          have h1 := hO.slot 1 (by kernel_rfl)
          refine wp_yields (v := .slice (some ⟨b1, o1, none⟩) plan.length lp) ?_ ⟨_, rfl, rfl, Below.refl _ _, hG⟩
          simp [slotOf] at h1
          simp [execOp, go_sem, h1]
        · intro a W hG hR hO hp
          have h11 := hO.slot 11 (by kernel_rfl)
          refine wp_yields (v := .int .i64 k) ?_ ⟨_, rfl, rfl, Below.refl _ _, hG⟩
          simp [slotOf] at h11
          simp [execOp, go_sem, h11]
        · intro a W hG hR hO hp
          have h23 : slotOf a 23 = .slice (some ⟨b1, o1, none⟩) plan.length lp := hp.1
          have h24 : slotOf a 24 = .int .i64 k := hp.2.1
          refine wp_yields (v := .pointer (some ⟨b1, o1 + k, none⟩)) ?_ ⟨_, rfl, rfl, Below.refl _ _, hG⟩
          simp [slotOf] at h23 h24
          simp [execOp, go_sem, h23, h24, hkp]
        · intro a W hG hR hO hp
          have h25 : slotOf a 25 = .pointer (some ⟨b1, o1 + k, none⟩) := hp.1
          have c0 := keep_cell c1 hG
          refine wp_yields (v := vi y) ?_ ⟨_, rfl, rfl, Below.refl _ _, hG⟩
          simp [slotOf] at h25
          simp [execOp, go_sem, h25, c0]
        · intro a W hG hR hO hp
          have h2 := hO.slot 2 (by kernel_rfl)
          refine wp_yields (v := vi (sl : Int)) ?_ ⟨_, rfl, rfl, Below.refl _ _, hG⟩
          simp [slotOf] at h2
          simp [execOp, go_sem, h2]
        · intro a W hG hR hO hp
          have h3 := hO.slot 3 (by kernel_rfl)
          refine wp_yields (v := vi year) ?_ ⟨_, rfl, rfl, Below.refl _ _, hG⟩
          simp [slotOf] at h3
          simp [execOp, go_sem, h3]
        · intro a W hG hR hO hp
          have h4 := hO.slot 4 (by kernel_rfl)
          refine wp_yields (v := .func (.func (endG hi)) #[] #[]) ?_ ⟨_, rfl, rfl, Below.refl _ _, hG⟩
          simp [slotOf] at h4
          simp [execOp, go_sem, h4]
        · intro a W hG hR hO hp
          have h22 : slotOf a 22 = wkV x := hp.1
          have h26 : slotOf a 26 = vi y := hp.2.1
          have h27 : slotOf a 27 = vi (sl : Int) := hp.2.2.1
          have h28 : slotOf a 28 = vi year := hp.2.2.2.1
          have h29 : slotOf a 29 = .func (.func (endG hi)) #[] #[] := hp.2.2.2.2.1
          refine wp_enters (f := 79) (args := #[wkV x, vi y, vi (sl : Int), vi year, .func (.func (endG hi)) #[] #[]]) ?_ ((HAD.out W (newer_trans HB.out.1 hG)).mono ?_)
          · simp [slotOf] at h22 h26 h27 h28 h29
            simp [go_sem, h22, h26, h27, h28, h29]
          · rintro e w' ⟨rfl, hb⟩
            exact ⟨_, rfl, _, rfl, rfl, hb, below_next hG hb⟩
        · intro a W hG hR hO hp
          have h21 : slotOf a 21 = vi acc := hp.1
          have h30 : slotOf a 30 = vi ad := hp.2.1
          refine wp_yields (v := vi nx) ?_ ⟨_, rfl, rfl, Below.refl _ _, hG⟩
          simp [slotOf] at h21 h30
          simp [execOp, go_sem, h21, h30, enx]
      · intro W hG hR
        rintro _ rfl _ rfl _ rfl _ rfl _ rfl _ rfl _ rfl _ rfl _ rfl _ rfl _ rfl
        change wpList _ _ _ _ _ _
        simp only [Act.put, List.setIfInBounds_toArray, List.set_cons_zero, List.set_cons_succ, List.drop_succ_cons, List.drop_zero]
        have HF := Lib.hid (newer_trans HB.out.1 hG)
        clear hG hR HB z0 z1 z2 z3 z4 z5 c1
        have hfw := HFW.out
        go_wp2_with fail
        go_roundw
        case rel => exact ⟨k + 1, by omega, by go_num, by rw [HNX.out], newer_trans HBW.out.1 HF.out, HBW.out.2.below HF.out HBW.out.2.lt⟩
        case measure => simp [intOf]; omega
    · obtain rfl : k = p.ws.length := by omega
      have hkn : ¬ ((p.ws.length : Int) < p.ws.length) := by omega
      rw [List.take_of_length_le (Nat.le_of_eq HLE.out.2)]
      go_wp2_with fail
      go_ret
      exact ⟨rfl, hbw⟩
end Go.Proofs.Ytpnpnfjhjjdmgaa
