/- What a plan misses, and whether it is allowed, by the reference. -/
import Derived.Test.YtpnpnfjhjjdmgaaAD
namespace Go.Proofs.Ytpnpnfjhjjdmgaa
open Go.RowKit Go.Deep

set_option maxRecDepth 100000 in
set_option maxHeartbeats 4000000 in
theorem refMissing (p : Pm) (plan : List Int) (L : Option Addr) (lp : Nat) (w : World) (hok : PmOk p w) (hpo : PjOk p) (hpl : planB p.pj.works plan = true) (hr : Row intL 1 w w.heap.size L plan) :
    Calls Try.prog 38 #[pmV p, .slice L plan.length lp] w fun e w' => (∃ A c, e = .returned (.slice A (missP p.pj plan).length c) ∧ Row intL 1 w' w'.heap.size A (missP p.pj plan)) ∧ newer w w' := by
  have hnw := newer_allocH w (.cells (pmC p) 27)
  have HX := Lib.hid (And.intro (Whole.made w 27 (pmC p)) hnw)
  have x3 := HX.out.1.at 3 (v := .slice p.na p.ns.length p.nc) rfl
  have hplo := plan_ok hpo hpl
  have hnn := hpo.nn
  have HT : Hid (∀ n ∈ p.ns, ∀ W, newer w W → Calls Try.prog 25 #[pmV p, .slice L plan.length lp, vi n.slope, vi n.year, .bool false] W fun e w' => e = .returned (vi (togN false n.slope.toNat n.year (p.ws.map (·.d)) plan)) ∧ newer W w') := Lib.hid fun n hn W hW => by
    have hnd := hpo.ns n hn
    simp only [ndB, inB, Bool.and_eq_true, decide_eq_true_eq] at hnd
    have hcast : ((n.slope.toNat : Nat) : Int) = n.slope := by omega
    have h := refTogether false p plan L lp n.slope.toNat n.year W (hok.next hW) hpo hplo.1 ((hr.below hW).more hW.size) (by omega) hnd.1.2.1 (by have := hpo.years; omega) (fun y hy => by have := hplo.2 y hy; omega)
    rw [hcast] at h
    exact h
  have HOK := Lib.hid hok
  have hmp : missP p.pj plan = missK (missB (p.ws.map (·.d)) plan) p.ns p.ns.length := rfl
  rw [hmp]
  obtain ⟨q, hq⟩ : ∃ q, q = missB (p.ws.map (·.d)) plan := ⟨_, rfl⟩
  rw [← hq]
  have HQ := Lib.hid hq
  obtain ⟨i0, hi0, hz0, hz1, hz2⟩ := info_parts Try.info3w
  have HI := Lib.hid (And.intro hi0 (And.intro hz0 (And.intro hz1 hz2)))
  clear hpl hpo hplo hok hr hmp hq hi0 hz0 hz1 hz2 hnw
  go_enter Try.func38, Try.ntmps38
  go_wp2_with fail
  clear x3
  go_loopw [5, 6] (fun s5 s6 wr => ∃ k : Nat, k ≤ p.ns.length ∧ s6 = .int .i64 k ∧ newer w wr ∧ Whole wr w.heap.size 27 (pmC p) ∧ wr.ownsRow w.heap.size 3 1 s5 (missK q p.ns k).length ((missK q p.ns k).flatMap intL)) (fun _ s6 _ => p.ns.length - (intOf s6).toNat)
  case atStart => exact ⟨0, Nat.zero_le _, rfl, HX.out.2, HX.out.1, by simp [missK], .inl ⟨rfl, rfl⟩⟩
  case round =>
    obtain ⟨k, hk, rfl, hbw, hbx, hown⟩ := hrel
    clear HX
    have x3 := hbx.at 3 (v := .slice p.na p.ns.length p.nc) rfl
    by_cases hlt : k < p.ns.length
    · have hkn : (k : Int) < p.ns.length := by omega
      obtain ⟨n, hn⟩ := get_of_lt hlt
      obtain ⟨b2, o2, e2, _, d0, d1, d2⟩ := row3 (HOK.out.next hbw).ns hn
      rw [e2] at x3
      have HTG : Hid (∀ W, newer wr W → Calls Try.prog 25 #[pmV p, .slice L plan.length lp, vi n.slope, vi n.year, .bool false] W fun e w' => e = .returned (vi (togN false n.slope.toNat n.year (p.ws.map (·.d)) plan)) ∧ newer W w') := Lib.hid fun W hW => HT.out n (List.mem_of_getElem? hn) W (newer_trans hbw hW)
      have hqn : q n = decide (togN false n.slope.toNat n.year (p.ws.map (·.d)) plan < n.due) := by rw [HQ.out]; rfl
      obtain ⟨tg, htg⟩ : ∃ tg, tg = togN false n.slope.toNat n.year (p.ws.map (·.d)) plan := ⟨_, rfl⟩
      rw [← htg] at HTG hqn
      have HBW := Lib.hid (And.intro hbw hbx)
      have HOW := Lib.hid hown
      have HNK := Lib.hid (And.intro hn hqn)
      clear htg hbw hbx hown hn hqn e2
      go_upto_region 6 with fail
      refine genQ (fun X => newer wr X ∧ Whole X wr.heap.size 60 #[vi n.slope, vi n.year, vi n.due]) ⟨newer_allocH _ _, Whole.made _ _ _⟩ ?_
      obtain ⟨nb, hnb⟩ : ∃ nb, nb = wr.heap.size := ⟨_, rfl⟩
      rw [← hnb]
      clear hnb d0 d1 d2 x3
      rintro wv ⟨hn, hwx⟩
      have y0 := hwx.at 0 (v := vi n.slope) rfl
      have y1 := hwx.at 1 (v := vi n.year) rfl
      have y2 := hwx.at 2 (v := vi n.due) rfl
      have hbx := HBW.out.2.below hn HBW.out.2.lt
      have x0 := hbx.at 0 (v := vi p.years) rfl
      have x1 := hbx.at 1 (v := vi p.slopes) rfl
      have x2 := hbx.at 2 (v := .slice p.wa p.ws.length p.wc) rfl
      have x3 := hbx.at 3 (v := .slice p.na p.ns.length p.nc) rfl
      have x4 := hbx.at 4 (v := .slice p.va p.vs.length p.vc) rfl
      have x5 := hbx.at 5 (v := .slice p.pa p.ps.length p.pc) rfl
      have HB := Lib.hid (And.intro hn (And.intro hbx (own_below HOW.out hn)))
      clear hn hwx hbx
      refine wp_words (by kernel_rfl) (region_told 9 (by kernel_rfl) (by kernel_rfl) (fun W => Below wv.heap.size wv W) newer (pickD [vIs (pmV p), vIs (.slice L plan.length lp), vIs (.pointer (some ⟨nb, 0, none⟩)), vIs (vi n.slope), vIs (.pointer (some ⟨nb, 1, none⟩)), vIs (vi n.year), vIs (vi tg), vIs (.pointer (some ⟨nb, 2, none⟩)), vIs (vi n.due)]) (fun h k => newer_trans h k) (pickD_stable _ ⟨vIs_st, vIs_st, vIs_st, vIs_st, vIs_st, vIs_st, vIs_st, vIs_st, vIs_st, trivial⟩) (Below.refl _ wv).drew (Below.refl _ _) ?_ ?_)
      · refine ⟨?_, ?_, ?_, ?_, ?_, ?_, ?_, ?_, ?_, trivial⟩
        · intro a W hG hR hO hp
          have h2 := hO.slot 2 (by kernel_rfl)
          have c0 := keep_cell x0 hG
          have c1 := keep_cell x1 hG
          have c2 := keep_cell x2 hG
          have c3 := keep_cell x3 hG
          have c4 := keep_cell x4 hG
          have c5 := keep_cell x5 hG
          refine wp_yields (v := pmV p) ?_ ⟨_, rfl, rfl, Below.refl _ _, hG⟩
          simp [slotOf] at h2
          simp [execOp, go_sem, h2, c0, c1, c2, c3, c4, c5]
        · intro a W hG hR hO hp
          have h1 := hO.slot 1 (by kernel_rfl)
          refine wp_yields (v := .slice L plan.length lp) ?_ ⟨_, rfl, rfl, Below.refl _ _, hG⟩
          simp [slotOf] at h1
          simp [execOp, go_sem, h1]
        · intro a W hG hR hO hp
          have h7 := hO.slot 7 (by kernel_rfl)
          refine wp_yields (v := .pointer (some ⟨nb, 0, none⟩)) ?_ ⟨_, rfl, rfl, Below.refl _ _, hG⟩
          simp [slotOf] at h7
          simp [execOp, go_sem, h7]
        · intro a W hG hR hO hp
          have h22 : slotOf a 22 = .pointer (some ⟨nb, 0, none⟩) := hp.1
          have c0 := keep_cell y0 hG
          refine wp_yields (v := vi n.slope) ?_ ⟨_, rfl, rfl, Below.refl _ _, hG⟩
          simp [slotOf] at h22
          simp [execOp, go_sem, h22, c0]
        · intro a W hG hR hO hp
          have h7 := hO.slot 7 (by kernel_rfl)
          refine wp_yields (v := .pointer (some ⟨nb, 1, none⟩)) ?_ ⟨_, rfl, rfl, Below.refl _ _, hG⟩
          simp [slotOf] at h7
          simp [execOp, go_sem, h7]
        · intro a W hG hR hO hp
          have h24 : slotOf a 24 = .pointer (some ⟨nb, 1, none⟩) := hp.1
          have c0 := keep_cell y1 hG
          refine wp_yields (v := vi n.year) ?_ ⟨_, rfl, rfl, Below.refl _ _, hG⟩
          simp [slotOf] at h24
          simp [execOp, go_sem, h24, c0]
        · intro a W hG hR hO hp
          have h20 : slotOf a 20 = pmV p := hp.1
          have h21 : slotOf a 21 = .slice L plan.length lp := hp.2.1
          have h23 : slotOf a 23 = vi n.slope := hp.2.2.1
          have h25 : slotOf a 25 = vi n.year := hp.2.2.2.1
          refine wp_enters (f := 25) (args := #[pmV p, .slice L plan.length lp, vi n.slope, vi n.year, .bool false]) ?_ ((HTG.out W (newer_trans HB.out.1 hG)).mono ?_)
          · simp [slotOf] at h20 h21 h23 h25
            simp [go_sem, h20, h21, h23, h25]
          · rintro e w' ⟨rfl, hb⟩
            exact ⟨_, rfl, _, rfl, rfl, hb, below_next hG hb⟩
        · intro a W hG hR hO hp
          have h7 := hO.slot 7 (by kernel_rfl)
          refine wp_yields (v := .pointer (some ⟨nb, 2, none⟩)) ?_ ⟨_, rfl, rfl, Below.refl _ _, hG⟩
          simp [slotOf] at h7
          simp [execOp, go_sem, h7]
        · intro a W hG hR hO hp
          have h27 : slotOf a 27 = .pointer (some ⟨nb, 2, none⟩) := hp.1
          have c0 := keep_cell y2 hG
          refine wp_yields (v := vi n.due) ?_ ⟨_, rfl, rfl, Below.refl _ _, hG⟩
          simp [slotOf] at h27
          simp [execOp, go_sem, h27, c0]
      · intro W hG hR
        rintro _ rfl _ rfl _ rfl _ rfl _ rfl _ rfl _ rfl _ rfl _ rfl
        change wpList _ _ _ _ _ _
        simp only [Act.put, List.setIfInBounds_toArray, List.set_cons_zero, List.set_cons_succ, List.drop_succ_cons, List.drop_zero]
        have HF := Lib.hid (And.intro (newer_trans HBW.out.1 (newer_trans HB.out.1 hG)) (And.intro (HB.out.2.1.below hG HB.out.2.1.lt) (own_below HB.out.2.2 hG)))
        clear hG hR HB HOW HBW x0 x1 x2 x3 x4 x5 y0 y1 y2
        obtain ⟨wx, hwx⟩ : ∃ wx, wx = W := ⟨_, rfl⟩
        rw [← hwx] at HF ⊢
        clear hwx W
        have hml := missK_len q p.ns k
        by_cases hlo : tg < n.due
        · have HY := Lib.hid (missK_yes (q := q) HNK.out.1 (by rw [HNK.out.2, decide_eq_true hlo]))
          have HO := Lib.hid (own_below HF.out.2.2 (newer_allocH wx (.cells #[vi k] 3)))
          have HN := Lib.hid (newer_trans HF.out.1 (newer_allocH wx (.cells #[vi k] 3)))
          have HBX := Lib.hid (HF.out.2.1.alloc (.cells #[vi k] 3))
          have HNW := Lib.hid (World.news_of_block (Whole.made wx 3 #[vi k]))
          have hbs := HF.out.1.size
          have hsv := HF.out.2.2
          obtain ⟨hi0, hz0, hz1, hz2⟩ := HI.out
          clear HF hsv
          go_wp2_with (at_builtin; go_loud ((refine wpList_append_lies _ rfl (.tmp 30) (.tmp 32) 25 rfl w.heap.size 3 i0 (.int .i64 0) 1 8 Try.underlying25 hi0 hz0 hz1 hz2 rfl (by omega) _ (missK q p.ns k).length _ rfl HO.out ⟨wx.heap.size, 0, none⟩ 1 1 [vi k] rfl rfl HNW.out (by simp [Value.oneCell']) (by omega) (by unfold maxLen; omega) (by omega) (by simp; omega) (wx.heap.size + 1) (by simp) ?_); intro gg cp2 w2 hown2 hgrow2 hat2 hlt2; have HG := Lib.hid (And.intro hown2 (And.intro (HN.out.grown hgrow2 HN.out.size (own_ge HO.out)) (HBX.out.grown hgrow2 (own_ne HO.out HBX.out (by decide)).symm))); clear hown2 hgrow2 hat2 hlt2 hi0 hz0 hz1 hz2 hbs))
          go_roundw
          case rel =>
            refine ⟨k + 1, by omega, by go_num, HG.out.2.1, HG.out.2.2, ?_⟩
            rw [HY.out, List.length_append, List.flatMap_append]
            exact HG.out.1
          case measure => simp [intOf]; omega
        · have HY := Lib.hid (missK_no (q := q) HNK.out.1 (by rw [HNK.out.2, decide_eq_false hlo]))
          go_wp2_with fail
          go_roundw
          case rel => exact ⟨k + 1, by omega, by go_num, HF.out.1, HF.out.2.1, by rw [HY.out]; exact HF.out.2.2⟩
          case measure => simp [intOf]; omega
    · obtain rfl : k = p.ns.length := by omega
      have hkn : ¬ ((p.ns.length : Int) < p.ns.length) := by omega
      obtain ⟨A2, c2, rfl⟩ := own_form hown
      have HF := Lib.hid (And.intro hbw hown)
      clear hbw hown hbx
      go_wp2_with fail
      go_ret
      exact ⟨⟨A2, ⟨c2, rfl⟩, row_of_own (enc := intL) (size := 1) (by omega) (fun _ => rfl) HF.out.2⟩, HF.out.1⟩
/-- May a work be built in the year that the plan names? -/
def okS (vs : List Bool) (q : Int × Wd) : Bool := !(decide (0 ≤ q.1) && (decide (0 ≤ q.2.village) && !vs[q.2.village.toNat]?.getD false))
/-- What is spent in a year, work by work; in each of the five years; up to a work. -/
def spT (ws : List Wd) (plan : List Int) (y : Int) : List Int := (plan.zip ws).map fun q => if q.1 = y then q.2.price else 0
def spK (ws : List Wd) (plan : List Int) (k : Nat) : List Int := (List.range 5).map fun (y : Nat) => ((spT ws plan (y : Int)).take k).sum
def spL (ws : List Wd) (plan : List Int) : List Int := spK ws plan plan.length
def allowB (q : Pj) (plan : List Int) : Bool := (plan.zip q.works).all (okS q.villages) && paidB q.purses (spL q.works plan)
theorem take_sum_bd {l : List Int} {B : Int} (hB : 0 ≤ B) (h : ∀ x ∈ l, 0 ≤ x ∧ x ≤ B) : ∀ k : Nat, 0 ≤ (l.take k).sum ∧ (l.take k).sum ≤ k * B
  | 0 => by simp
  | k + 1 => by
    have ih := take_sum_bd hB h k
    have e : ((k + 1 : Nat) : Int) * B = k * B + B := by rw [Int.natCast_add, Int.add_mul]; simp
    rw [e]
    cases hk : l[k]? with
    | none =>
      have : l.length ≤ k := by simpa using hk
      rw [List.take_of_length_le (by omega)]
      rw [List.take_of_length_le (by omega)] at ih
      omega
    | some x =>
      rw [sum_take hk]
      have := h x (List.mem_of_getElem? hk)
      omega
theorem spT_bd {ws : List Wd} {plan : List Int} {y : Int} (h : ∀ x ∈ ws, 0 ≤ x.price ∧ x.price ≤ 1000000) : ∀ z ∈ spT ws plan y, 0 ≤ z ∧ z ≤ 1000000 := by
  intro z hz
  unfold spT at hz
  obtain ⟨q, hq, rfl⟩ := List.mem_map.1 hz
  have := h q.2 (List.of_mem_zip hq).2
  split <;> omega
theorem spT_at {ws : List Wd} {plan : List Int} {y b : Int} {k : Nat} {x : Wd} (h1 : plan[k]? = some b) (h2 : ws[k]? = some x) : (spT ws plan y)[k]? = some (if b = y then x.price else 0) := by
  unfold spT
  rw [List.getElem?_map, zip_at h1 h2]
  rfl
theorem spK_at {ws : List Wd} {plan : List Int} {k y : Nat} (h : y < 5) : (spK ws plan k)[y]? = some ((spT ws plan (y : Int)).take k).sum := by
  unfold spK
  rw [List.getElem?_map, List.getElem?_range h]
  rfl
theorem spK_bd {ws : List Wd} {plan : List Int} {k : Nat} (hk : k ≤ 8) (h : ∀ x ∈ ws, 0 ≤ x.price ∧ x.price ≤ 1000000) : ∀ z ∈ spK ws plan k, 0 ≤ z ∧ z ≤ 8000000 := by
  intro z hz
  unfold spK at hz
  obtain ⟨y, hy, rfl⟩ := List.mem_map.1 hz
  have := take_sum_bd (by omega) (spT_bd (plan := plan) (y := (y : Int)) h) k
  omega
set_option maxRecDepth 100000 in
set_option maxHeartbeats 8000000 in
theorem refAllowed (p : Pm) (plan : List Int) (L : Option Addr) (lp : Nat) (w : World) (hok : PmOk p w) (hpo : PjOk p) (hpl : planB p.pj.works plan = true) (hr : Row intL 1 w w.heap.size L plan) :
    Calls Try.prog 39 #[pmV p, .slice L plan.length lp] w fun e w' => e = .returned (.bool (allowB p.pj plan)) ∧ newer w w' := by
  have hnw := newer_allocH w (.cells (pmC p) 27)
  have H0 := Lib.hid (And.intro hnw (Whole.made w 27 (pmC p)))
  have HPO := Lib.hid hpo
  have HPL := Lib.hid (plan_ok hpo hpl)
  have HOK := Lib.hid hok
  have HR := Lib.hid hr
  have hpn : plan.length ≤ 8 := by have h1 := HPL.out.1; have h2 := hpo.wn; omega
  have HPB : Hid (∀ x ∈ p.pj.works, 0 ≤ x.price ∧ x.price ≤ 1000000) := Lib.hid (fun x hx => by
    obtain ⟨z, hz, rfl⟩ := List.mem_map.1 hx
    have := (wdB_parts (hpo.ws z hz)).1
    omega)
  have HWG : Hid (∀ (k : Nat) (x : Wk), p.ws[k]? = some x → p.pj.works[k]? = some x.d) := Lib.hid (fun k x hx => by simp [Pm.pj, hx])
  have HZL : Hid ((plan.zip p.pj.works).length = plan.length) := Lib.hid (by rw [List.length_zip, show p.pj.works.length = p.ws.length by simp [Pm.pj]]; have := HPL.out.1; omega)
  obtain ⟨res, hres⟩ : ∃ res, res = allowB p.pj plan := ⟨_, rfl⟩
  have HRS := Lib.hid hres
  rw [← hres]
  clear hnw hok hr hpo hpl hres
  go_enter Try.func39, Try.ntmps39
  go_wp2_with fail
  obtain ⟨aa, haa⟩ : ∃ aa, aa = L := ⟨_, rfl⟩
  rw [← haa]
  have HAA := Lib.hid haa
  clear haa
  go_loopw [5] (fun s5 wr => ∃ k : Nat, k ≤ plan.length ∧ s5 = .int .i64 k ∧ newer w wr ∧ Whole wr w.heap.size 27 (pmC p) ∧ early (fun q => !okS p.vs q) (plan.zip p.pj.works) k) (fun s5 _ => plan.length - (intOf s5).toNat)
  case atStart => exact ⟨0, Nat.zero_le _, rfl, H0.out.1, H0.out.2, early_zero _ _⟩
  case round =>
    obtain ⟨k, hk, rfl, hbw, hbx, he⟩ := hrel
    clear H0
    have HE := Lib.hid he
    clear he
    by_cases hlt : k < plan.length
    · have hl := HPL.out.1
      have hkp : (k : Int) < plan.length := by omega
      have hkn : (k : Int) < p.ws.length := by omega
      obtain ⟨y, hy⟩ := get_of_lt hlt
      obtain ⟨x, hx⟩ := get_of_lt (l := p.ws) (k := k) (by omega)
      have x2 := hbx.at 2 (v := .slice p.wa p.ws.length p.wc) rfl
      have x4 := hbx.at 4 (v := .slice p.va p.vs.length p.vc) rfl
      obtain ⟨b2, o2, e2, _, _, _, _, _, d4, _⟩ := row6 (HOK.out.next hbw).ws hx
      rw [e2] at x2
      obtain ⟨b3, o3, e3, _, cy⟩ := row1 ((HR.out.below hbw).more hbw.size) hy
      have e5 := HAA.out.trans e3
      clear e3 HAA
      subst e5
      have HZ := Lib.hid (zip_at hy (HWG.out k x hx))
      have hvb := (wdB_parts (HPO.out.ws x (List.mem_of_getElem? hx))).2.2.2.1
      have HB := Lib.hid (And.intro hbw hbx)
      clear hbw hbx hy hx e2 hl
      by_cases c1 : 0 ≤ y
      · by_cases c2 : 0 ≤ x.d.village
        · obtain ⟨vk, hvk⟩ : ∃ vk : Nat, x.d.village = vk := ⟨x.d.village.toNat, by omega⟩
          obtain ⟨b, hb⟩ := get_of_lt (l := p.vs) (k := vk) (by omega)
          have i1 : (vk : Int) < p.vs.length := by omega
          obtain ⟨b5, o5, e5, _, v0⟩ := rowB (HOK.out.next HB.out.1).vs hb
          have HOS : Hid (okS p.vs (y, x.d) = b) := Lib.hid (by
            unfold okS
            rw [decide_eq_true c1, decide_eq_true c2, show x.d.village.toNat = vk by omega, hb]
            cases b <;> rfl)
          rw [hvk] at d4
          rw [e5] at x4
          have c2' : (0 : Int) ≤ (vk : Int) := by omega
          clear hvk hb e5 c2 hvb
          cases b with
          | false =>
            have HRF : Hid (res = false) := Lib.hid (by
              rw [HRS.out]
              unfold allowB
              rw [show (plan.zip p.pj.works).all (okS p.pj.villages) = false from all_bad HZ.out HOS.out]
              rfl)
            go_wp2_with fail
            go_ret
            exact ⟨by rw [HRF.out] <;> rfl, HB.out.1⟩
          | true =>
            have HEN := Lib.hid (early_succ HE.out HZ.out (show (!okS p.vs (y, x.d)) = false by rw [HOS.out]; rfl))
            go_wp2_with fail
            go_roundw
            case rel => exact ⟨k + 1, by omega, by go_num, HB.out.1, HB.out.2, HEN.out⟩
            case measure => simp [intOf]; omega
        · have HOS : Hid (okS p.vs (y, x.d) = true) := Lib.hid (by
            unfold okS
            rw [decide_eq_false c2]
            simp)
          have HEN := Lib.hid (early_succ HE.out HZ.out (show (!okS p.vs (y, x.d)) = false by rw [HOS.out]; rfl))
          go_wp2_with fail
          go_roundw
          case rel => exact ⟨k + 1, by omega, by go_num, HB.out.1, HB.out.2, HEN.out⟩
          case measure => simp [intOf]; omega
      · have HOS : Hid (okS p.vs (y, x.d) = true) := Lib.hid (by
          unfold okS
          rw [decide_eq_false c1]
          rfl)
        have HEN := Lib.hid (early_succ HE.out HZ.out (show (!okS p.vs (y, x.d)) = false by rw [HOS.out]; rfl))
        go_wp2_with fail
        go_roundw
        case rel => exact ⟨k + 1, by omega, by go_num, HB.out.1, HB.out.2, HEN.out⟩
        case measure => simp [intOf]; omega
    · obtain rfl : k = plan.length := by omega
      have hkp : ¬ ((plan.length : Int) < plan.length) := by omega
      have HOA : Hid ((plan.zip p.pj.works).all (okS p.vs) = true) := Lib.hid (all_early (by rw [HZL.out]; exact HE.out))
      obtain ⟨SL, hSL⟩ : ∃ SL, SL = spL p.pj.works plan := ⟨_, rfl⟩
      have HSL := Lib.hid hSL
      have HSB : Hid (∀ z ∈ SL, 0 ≤ z ∧ z ≤ 8000000) := Lib.hid (by rw [hSL]; exact spK_bd hpn HPB.out)
      have H0 := Lib.hid (And.intro hbw hbx)
      have hyr := HPO.out.years
      have hpp := HPO.out.pn
      clear hbw hbx HE hSL hlt hk
      go_wp2_with fail
      clear hkp
      go_loopw [7, 8, 9] (fun s7 s8 s9 wr => ∃ k : Nat, k ≤ p.ps.length ∧ s9 = .int .i64 k ∧ s8 = vi (p.ps.take k).sum ∧ s7 = vi (SL.take k).sum ∧ newer w wr ∧ Whole wr w.heap.size 27 (pmC p) ∧ (List.range k).all (fun y => decide ((SL.take (y + 1)).sum ≤ (p.ps.take (y + 1)).sum)) = true) (fun _ _ s9 _ => p.ps.length - (intOf s9).toNat)
      case atStart => exact ⟨0, Nat.zero_le _, rfl, rfl, rfl, H0.out.1, H0.out.2, rfl⟩
      case round =>
        obtain ⟨k, hk, rfl, rfl, rfl, hbw, hbx, he⟩ := hrel
        clear H0
        have HE := Lib.hid he
        have x0 := hbx.at 0 (v := vi p.years) rfl
        clear he
        obtain ⟨wo, hwo⟩ : ∃ wo : World, wo = wr := ⟨_, rfl⟩
        rw [← hwo] at hbw hbx x0 ⊢
        clear hwo wr
        have hb1 := take_sum_bd (by omega) HPO.out.ps k
        have hb2 := take_sum_bd (by omega) HSB.out k
        by_cases hlt : k < p.ps.length
        · have hkY : (k : Int) < p.years := by omega
          have hkP : (k : Int) < p.ps.length := by omega
          obtain ⟨pu, hpu⟩ := get_of_lt hlt
          have hpub := HPO.out.ps pu (List.mem_of_getElem? hpu)
          have x5 := hbx.at 5 (v := .slice p.pa p.ps.length p.pc) rfl
          obtain ⟨b6, o6, e6, _, cp0⟩ := row1 (HOK.out.next hbw).ps hpu
          rw [e6] at x5
          have hse := sum_take hpu
          obtain ⟨hd, hhd⟩ : ∃ hd, hd = (p.ps.take k).sum := ⟨_, rfl⟩
          obtain ⟨hd1, hhd1⟩ : ∃ hd1, hd1 = (p.ps.take (k + 1)).sum := ⟨_, rfl⟩
          obtain ⟨bs, hbs⟩ : ∃ bs, bs = (SL.take k).sum := ⟨_, rfl⟩
          rw [← hhd, ← hhd1] at hse
          rw [← hhd] at hb1 ⊢
          rw [← hbs] at hb2 ⊢
          have esu : IntKind.i64.wrap (hd + pu) = hd1 := by rw [hse]; exact IntWalk.i64_in _ (by omega)
          have hslk : SL[k]? = some ((spT p.pj.works plan (k : Int)).take plan.length).sum := by rw [HSL.out]; exact spK_at (by omega)
          have HKS : Hid ((SL.take (k + 1)).sum = bs + ((spT p.pj.works plan (k : Int)).take plan.length).sum ∧ hd1 = (p.ps.take (k + 1)).sum ∧ 0 ≤ bs ∧ bs ≤ 40000000) := Lib.hid ⟨by rw [sum_take hslk, hbs], hhd1, by omega, by omega⟩
          have HB := Lib.hid (And.intro hbw hbx)
          have HSP : Hid (∀ j, 0 ≤ ((spT p.pj.works plan (k : Int)).take j).sum ∧ ((spT p.pj.works plan (k : Int)).take j).sum ≤ j * 1000000) := Lib.hid (fun j => take_sum_bd (by omega) (spT_bd HPB.out) j)
          have HKK := Lib.hid (And.intro hlt (And.intro hyr hpp))
          clear hbw hbx hpu hpub hhd hhd1 hbs hse hb1 hb2 hslk e6 hlt
          go_wp2_with fail
          clear x0 x5 cp0 esu
          obtain ⟨bb, hbb⟩ : ∃ bb, bb = bs + ((spT p.pj.works plan (k : Int)).take 0).sum := ⟨_, rfl⟩
          have hbb2 : bs = bb := by rw [hbb]; simp
          rw [hbb2]
          have HBB := Lib.hid hbb
          clear hbb hbb2
          go_loopw [7, 10] (fun s7 s10 wr => ∃ j : Nat, j ≤ plan.length ∧ s10 = .int .i64 j ∧ s7 = vi (bs + ((spT p.pj.works plan (k : Int)).take j).sum) ∧ newer w wr ∧ Whole wr w.heap.size 27 (pmC p)) (fun _ s10 _ => plan.length - (intOf s10).toNat)
          case atStart => exact ⟨0, Nat.zero_le _, rfl, by rw [HBB.out], HB.out.1, HB.out.2⟩
          case round =>
            obtain ⟨j, hj, rfl, rfl, hbw, hbx⟩ := hrel
            clear HB
            have hq1 := HSP.out j
            have hq2 := HKS.out.2.2
            obtain ⟨ac, hac⟩ : ∃ ac, ac = bs + ((spT p.pj.works plan (k : Int)).take j).sum := ⟨_, rfl⟩
            rw [← hac]
            by_cases hlj : j < plan.length
            · have hl := HPL.out.1
              have hjp : (j : Int) < plan.length := by omega
              have hjn : (j : Int) < p.ws.length := by omega
              obtain ⟨y, hy⟩ := get_of_lt hlj
              obtain ⟨x, hx⟩ := get_of_lt (l := p.ws) (k := j) (by omega)
              have x2 := hbx.at 2 (v := .slice p.wa p.ws.length p.wc) rfl
              obtain ⟨b2, o2, e2, _, d0, _⟩ := row6 (HOK.out.next hbw).ws hx
              rw [e2] at x2
              obtain ⟨b3, o3, e3, _, cy⟩ := row1 ((HR.out.below hbw).more hbw.size) hy
              have e5 := HAA.out.trans e3
              clear e3 HAA
              subst e5
              have hxb := (wdB_parts (HPO.out.ws x (List.mem_of_getElem? hx))).1
              have hst := sum_take (spT_at (y := (k : Int)) hy (HWG.out j x hx))
              have HB := Lib.hid (And.intro hbw hbx)
              by_cases hyk : y = (k : Int)
              · rw [if_pos hyk] at hst
                obtain ⟨su, hsu⟩ : ∃ su, su = ac + x.d.price := ⟨_, rfl⟩
                have esu : IntKind.i64.wrap (ac + x.d.price) = su := by rw [hsu]; exact IntWalk.i64_in _ (by omega)
                have HNX : Hid (su = bs + ((spT p.pj.works plan (k : Int)).take (j + 1)).sum) := Lib.hid (by rw [hst, hsu, hac]; omega)
                have hyb : (y == (k : Int)) = true := by rw [beq_iff_eq]; exact hyk
                clear hbw hbx hy hx hst hsu hac hq1 hq2 e2 hl hyk
                go_wp2_with fail
                go_roundw
                case rel => exact ⟨j + 1, by omega, by go_num, by rw [← HNX.out], HB.out.1, HB.out.2⟩
                case measure => simp [intOf]; omega
              · rw [if_neg hyk] at hst
                have HNX : Hid (ac = bs + ((spT p.pj.works plan (k : Int)).take (j + 1)).sum) := Lib.hid (by rw [hst, hac]; omega)
                have hyb : (y == (k : Int)) = false := by rw [beq_eq_false_iff_ne]; exact hyk
                clear hbw hbx hy hx hst hac hq1 hq2 e2 hl hyk
                go_wp2_with fail
                go_roundw
                case rel => exact ⟨j + 1, by omega, by go_num, by rw [← HNX.out], HB.out.1, HB.out.2⟩
                case measure => simp [intOf]; omega
            · obtain rfl : j = plan.length := by omega
              have hjp : ¬ ((plan.length : Int) < plan.length) := by omega
              have HAC : Hid (ac = (SL.take (k + 1)).sum) := Lib.hid (by rw [HKS.out.1, hac])
              have HN := Lib.hid (And.intro hbw hbx)
              have hkb : k ≤ 5 := by omega
              clear hbw hbx hac hq1 hq2
              by_cases hov : hd1 < ac
              · have HRF : Hid (res = false) := Lib.hid (by
                  rw [HRS.out]
                  unfold allowB paidB
                  rw [show (List.range p.pj.purses.length).all (fun y => decide (((spL p.pj.works plan).take (y + 1)).sum ≤ (p.pj.purses.take (y + 1)).sum)) = false from all_bad (k := k) (x := k) (by rw [List.getElem?_range]; exact HKK.out.1) (by
                    rw [← HSL.out, ← HAC.out, show p.pj.purses = p.ps from rfl, ← HKS.out.2.1]
                    exact decide_eq_false (by omega)), Bool.and_false])
                go_wp2_with fail
                go_ret
                exact ⟨by rw [HRF.out] <;> rfl, HN.out.1⟩
              · have HEN : Hid ((List.range (k + 1)).all (fun y => decide ((SL.take (y + 1)).sum ≤ (p.ps.take (y + 1)).sum)) = true) := Lib.hid (by
                  rw [List.range_succ, List.all_append, HE.out, List.all_cons, ← HAC.out, ← HKS.out.2.1, decide_eq_true (by omega)]
                  rfl)
                go_wp2_with fail
                go_roundw
                case rel => exact ⟨k + 1, by have := HKK.out.1; omega, by go_num, by rw [HKS.out.2.1], by rw [HAC.out], HN.out.1, HN.out.2, HEN.out⟩
                case measure => have := HKK.out.1; simp [intOf]; omega
        · obtain rfl : k = p.ps.length := by omega
          have hkY : ¬ ((p.ps.length : Int) < p.years) := by omega
          have HRT : Hid (res = true) := Lib.hid (by
            rw [HRS.out]
            unfold allowB paidB
            rw [show (plan.zip p.pj.works).all (okS p.pj.villages) = true from HOA.out, ← HSL.out]
            exact HE.out)
          have HNN := Lib.hid hbw
          clear hbw hbx hb1 hb2
          go_wp2_with fail
          go_ret
          exact ⟨by rw [HRT.out] <;> rfl, HNN.out⟩
end Go.Proofs.Ytpnpnfjhjjdmgaa
