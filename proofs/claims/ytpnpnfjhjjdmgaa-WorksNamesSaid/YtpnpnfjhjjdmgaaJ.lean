/- The needs for which a plan is not enough. -/
import Derived.Test.YtpnpnfjhjjdmgaaI
namespace Go.Proofs.Ytpnpnfjhjjdmgaa
open Go.RowKit Go.Deep

def missB (ws : List Wd) (plan : List Int) (n : Nd) : Bool := decide (togN false n.slope.toNat n.year ws plan < n.due)
/-- Which of the first needs are not met. -/
def missK (q : Nd → Bool) (ns : List Nd) : Nat → List Int
  | 0 => []
  | k + 1 => missK q ns k ++ (match ns[k]? with
    | some n => if q n then [(k : Int)] else []
    | none => [])
def missP (p : Pj) (plan : List Int) : List Int := missK (missB p.works plan) p.needs p.needs.length
theorem missK_len (q : Nd → Bool) (ns : List Nd) : ∀ k, (missK q ns k).length ≤ k
  | 0 => Nat.le_refl _
  | k + 1 => by
    have := missK_len q ns k
    simp only [missK, List.length_append]
    split
    · split <;> simp <;> omega
    · simp; omega
theorem missK_yes {q : Nd → Bool} {ns : List Nd} {k : Nat} {n : Nd} (h : ns[k]? = some n) (hq : q n = true) : missK q ns (k + 1) = missK q ns k ++ [(k : Int)] := by
  simp only [missK, h, hq, if_true]
theorem missK_no {q : Nd → Bool} {ns : List Nd} {k : Nat} {n : Nd} (h : ns[k]? = some n) (hq : q n = false) : missK q ns (k + 1) = missK q ns k := by
  simp only [missK, h, hq, Bool.false_eq_true, if_false, List.append_nil]
theorem Try.info3w : (Try.prog.info? 3).map (fun i => (i.zero, i.size, i.bytes)) = some (some (.int .i64 0), 1, 8) := by kernel_rfl
def missOut (p : Pj) (plan : List Int) : List Int := if checkN p plan = 0 then missP p plan else []
def missed (w : World) (p : Pj) (plan : List Int) (e : Ending) (w' : World) : Prop :=
  ∃ A c, e = .returned (.tuple #[.slice A (missOut p plan).length c, vi (checkN p plan)]) ∧ Row intL 1 w' w'.heap.size A (missOut p plan) ∧ newer w w'
set_option maxRecDepth 100000 in
set_option maxHeartbeats 2000000 in
theorem missing_any (p : Pm) (plan : List Int) (L : Option Addr) (lp : Nat) (w : World) (hok : PmOk p w) (few : PmFew p) (hl : plan.length ≤ 1000) (hr : Row intL 1 w w.heap.size L plan) :
    Calls Try.prog 36 #[pmV p, .slice L plan.length lp] w (missed w p.pj plan) := by
  have hnw := newer_allocH w (.cells (pmC p) 35)
  have HCK := Lib.hid (check_any p plan L lp _ (hok.next hnw) few hl ((hr.below hnw).more hnw.size))
  have HW := Lib.hid (And.intro (Whole.made w 35 (pmC p)) hnw)
  clear hnw
  unfold missed missOut
  by_cases hc : checkN p.pj plan = 0
  · rw [hc] at HCK ⊢
    rw [if_pos rfl]
    have hfz : faultN p.pj = 0 := by
      unfold checkN at hc
      by_cases hf : faultN p.pj = 0
      · exact hf
      · rw [if_neg hf] at hc; exact absurd hc hf
    have hpl : planB p.pj.works plan = true := by
      unfold checkN at hc
      rw [if_pos hfz] at hc
      cases hq : planB p.pj.works plan with
      | true => rfl
      | false => rw [hq] at hc; simp at hc
    have hpo := fault_ok hfz
    have hplo := plan_ok hpo hpl
    have hnn := hpo.nn
    have HPO := Lib.hid (And.intro hpo hplo)
    have HT : Hid (∀ n ∈ p.ns, ∀ W, newer w W → Calls Try.prog 55 #[pmV p, .slice L plan.length lp, vi n.slope, vi n.year, .func (.func 56) #[] #[]] W fun e w' => e = .returned (vi (togN false n.slope.toNat n.year (p.ws.map (·.d)) plan)) ∧ newer W w') := Lib.hid fun n hn W hW => by
      have hnd := hpo.ns n hn
      simp only [ndB, inB, Bool.and_eq_true, decide_eq_true_eq] at hnd
      have hcast : ((n.slope.toNat : Nat) : Int) = n.slope := by omega
      have h := together_any false p plan L lp n.slope.toNat n.year W (hok.next hW) few hplo.1 ((hr.below hW).more hW.size) hpo.ws (by omega) hnd.1.2.1 (by have := hpo.years; omega) (fun y hy => by have := hplo.2 y hy; omega)
      rw [hcast] at h
      exact h
    have HOK := Lib.hid hok
    have HR := Lib.hid hr
    have hmp : missP p.pj plan = missK (missB (p.ws.map (·.d)) plan) p.ns p.ns.length := rfl
    rw [hmp]
    obtain ⟨q, hq⟩ : ∃ q, q = missB (p.ws.map (·.d)) plan := ⟨_, rfl⟩
    rw [← hq]
    have HQ := Lib.hid hq
    obtain ⟨i0, hi0, hz0, hz1, hz2⟩ := info_parts Try.info3w
    have HI := Lib.hid (And.intro hi0 (And.intro hz0 (And.intro hz1 hz2)))
    clear hc hfz hpl hpo hplo hok hr few hmp hq hi0 hz0 hz1 hz2
    go_enter Try.func36, Try.ntmps36
    go_wp2_with (go_at_call 54; refine (HCK.out).mono ?_; rintro e w1 ⟨rfl, hb1⟩; have hw := (HW.out.1).below hb1 (HW.out.1).lt; have HX := Lib.hid (And.intro hw (newer_trans HW.out.2 hb1)); have x3 := hw.at 3 (v := .slice p.na p.ns.length p.nc) rfl; clear hw hb1)
    obtain ⟨na, hna⟩ : ∃ na, na = p.na := ⟨_, rfl⟩
    rw [← hna]
    have HNA := Lib.hid hna
    clear hna x3
    go_loopw [7, 19] (fun s7 s19 wr => ∃ k : Nat, k ≤ p.ns.length ∧ s19 = .int .i64 k ∧ newer w wr ∧ Whole wr w.heap.size 35 (pmC p) ∧ wr.ownsRow w.heap.size 3 1 s7 (missK q p.ns k).length ((missK q p.ns k).flatMap intL)) (fun _ s19 _ => p.ns.length - (intOf s19).toNat)
    case atStart => exact ⟨0, Nat.zero_le _, rfl, HX.out.2, HX.out.1, by simp [missK], .inl ⟨rfl, rfl⟩⟩
    case round =>
      obtain ⟨k, hk, rfl, hbw, hbx, hown⟩ := hrel
      clear HX
      by_cases hlt : k < p.ns.length
      · have hkn : (k : Int) < p.ns.length := by omega
        obtain ⟨n, hn⟩ := get_of_lt hlt
        obtain ⟨b2, o2, e2, _, d0, d1, d2⟩ := row3 (HOK.out.next hbw).ns hn
        have e3 := HNA.out.trans e2
        clear e2 HNA
        subst e3
        have HTG : Hid (∀ W, newer wr W → Calls Try.prog 55 #[pmV p, .slice L plan.length lp, vi n.slope, vi n.year, .func (.func 56) #[] #[]] W fun e w' => e = .returned (vi (togN false n.slope.toNat n.year (p.ws.map (·.d)) plan)) ∧ newer W w') := Lib.hid fun W hW => HT.out n (List.mem_of_getElem? hn) W (newer_trans hbw hW)
        have hqn : q n = decide (togN false n.slope.toNat n.year (p.ws.map (·.d)) plan < n.due) := by rw [HQ.out]; rfl
        obtain ⟨tg, htg⟩ : ∃ tg, tg = togN false n.slope.toNat n.year (p.ws.map (·.d)) plan := ⟨_, rfl⟩
        rw [← htg] at HTG hqn
        have HBW := Lib.hid (And.intro hbw hbx)
        have HOW := Lib.hid hown
        have HNK := Lib.hid (And.intro hn hqn)
        clear htg hbw hbx hown hn hqn
        go_upto_region 8 with fail
        refine genQ (fun X => newer wr X ∧ Whole X wr.heap.size 89 #[vi n.slope, vi n.year, vi n.due]) ⟨newer_allocH _ _, Whole.made _ _ _⟩ ?_
        obtain ⟨nb, hnb⟩ : ∃ nb, nb = wr.heap.size := ⟨_, rfl⟩
        rw [← hnb]
        clear hnb d0 d1 d2
        rintro wv ⟨hn, hwx⟩
        have y0 := hwx.at 0 (v := vi n.slope) rfl
        have y1 := hwx.at 1 (v := vi n.year) rfl
        have y2 := hwx.at 2 (v := vi n.due) rfl
        have hbx := HBW.out.2.below hn HBW.out.2.lt
        have x0 := hbx.at 0 (v := vi p.years) rfl
        have x1 := hbx.at 1 (v := vi p.slopes) rfl
        have x2 := hbx.at 2 (v := .slice p.wa p.ws.length p.wc) rfl
        have x3 := hbx.at 3 (v := .slice p.na p.ns.length p.nc) rfl
        have x4 := hbx.at 4 (v := .slice p.va p.vs.length p.vc) rfl
        have x5 := hbx.at 5 (v := .slice p.pa p.ps.length p.pc) rfl
        have HB := Lib.hid (And.intro hn (And.intro hbx (own_below HOW.out hn)))
        clear hn hwx hbx
        refine wp_words (by kernel_rfl) (region_told 9 (by kernel_rfl) (by kernel_rfl) (fun W => Below wv.heap.size wv W) newer (pickD [vIs (pmV p), vIs (.slice L plan.length lp), vIs (.pointer (some ⟨nb, 0, none⟩)), vIs (vi n.slope), vIs (.pointer (some ⟨nb, 1, none⟩)), vIs (vi n.year), vIs (vi tg), vIs (.pointer (some ⟨nb, 2, none⟩)), vIs (vi n.due)]) (fun h k => newer_trans h k) (pickD_stable _ ⟨vIs_st, vIs_st, vIs_st, vIs_st, vIs_st, vIs_st, vIs_st, vIs_st, vIs_st, trivial⟩) (Below.refl _ wv).drew (Below.refl _ _) ?_ ?_)
        · refine ⟨?_, ?_, ?_, ?_, ?_, ?_, ?_, ?_, ?_, trivial⟩
          · intro a W hG hR hO hp
            have h2 := hO.slot 2 (by kernel_rfl)
            have c0 := keep_cell x0 hG
            have c1 := keep_cell x1 hG
            have c2 := keep_cell x2 hG
            have c3 := keep_cell x3 hG
            have c4 := keep_cell x4 hG
            have c5 := keep_cell x5 hG
            refine wp_yields (v := pmV p) ?_ ⟨_, rfl, rfl, Below.refl _ _, hG⟩
            simp [slotOf] at h2
            simp [execOp, go_sem, h2, c0, c1, c2, c3, c4, c5]
          · intro a W hG hR hO hp
            have h1 := hO.slot 1 (by kernel_rfl)
            refine wp_yields (v := .slice L plan.length lp) ?_ ⟨_, rfl, rfl, Below.refl _ _, hG⟩
            simp [slotOf] at h1
            simp [execOp, go_sem, h1]
          · intro a W hG hR hO hp
            have h9 := hO.slot 9 (by kernel_rfl)
            refine wp_yields (v := .pointer (some ⟨nb, 0, none⟩)) ?_ ⟨_, rfl, rfl, Below.refl _ _, hG⟩
            simp [slotOf] at h9
            simp [execOp, go_sem, h9]
          · intro a W hG hR hO hp
            have h26 : slotOf a 26 = .pointer (some ⟨nb, 0, none⟩) := hp.1
            have c0 := keep_cell y0 hG
            refine wp_yields (v := vi n.slope) ?_ ⟨_, rfl, rfl, Below.refl _ _, hG⟩
            simp [slotOf] at h26
            simp [execOp, go_sem, h26, c0]
          · intro a W hG hR hO hp
            have h9 := hO.slot 9 (by kernel_rfl)
            refine wp_yields (v := .pointer (some ⟨nb, 1, none⟩)) ?_ ⟨_, rfl, rfl, Below.refl _ _, hG⟩
            simp [slotOf] at h9
            simp [execOp, go_sem, h9]
          · intro a W hG hR hO hp
            have h28 : slotOf a 28 = .pointer (some ⟨nb, 1, none⟩) := hp.1
            have c0 := keep_cell y1 hG
            refine wp_yields (v := vi n.year) ?_ ⟨_, rfl, rfl, Below.refl _ _, hG⟩
            simp [slotOf] at h28
            simp [execOp, go_sem, h28, c0]
          · intro a W hG hR hO hp
            have h24 : slotOf a 24 = pmV p := hp.1
            have h25 : slotOf a 25 = .slice L plan.length lp := hp.2.1
            have h27 : slotOf a 27 = vi n.slope := hp.2.2.1
            have h29 : slotOf a 29 = vi n.year := hp.2.2.2.1
            refine wp_enters (f := 55) (args := #[pmV p, .slice L plan.length lp, vi n.slope, vi n.year, .func (.func 56) #[] #[]]) ?_ ((HTG.out W (newer_trans HB.out.1 hG)).mono ?_)
            · simp [slotOf] at h24 h25 h27 h29
              simp [go_sem, h24, h25, h27, h29]
            · rintro e w' ⟨rfl, hb⟩
              exact ⟨_, rfl, _, rfl, rfl, hb, below_next hG hb⟩
          · intro a W hG hR hO hp
            have h9 := hO.slot 9 (by kernel_rfl)
            refine wp_yields (v := .pointer (some ⟨nb, 2, none⟩)) ?_ ⟨_, rfl, rfl, Below.refl _ _, hG⟩
            simp [slotOf] at h9
            simp [execOp, go_sem, h9]
          · intro a W hG hR hO hp
            have h31 : slotOf a 31 = .pointer (some ⟨nb, 2, none⟩) := hp.1
            have c0 := keep_cell y2 hG
            refine wp_yields (v := vi n.due) ?_ ⟨_, rfl, rfl, Below.refl _ _, hG⟩
            simp [slotOf] at h31
            simp [execOp, go_sem, h31, c0]
        · intro W hG hR
          rintro _ rfl _ rfl _ rfl _ rfl _ rfl _ rfl _ rfl _ rfl _ rfl
          change wpList _ _ _ _ _ _
          simp only [Act.put, List.setIfInBounds_toArray, List.set_cons_zero, List.set_cons_succ, List.drop_succ_cons, List.drop_zero]
          have HF := Lib.hid (And.intro (newer_trans HBW.out.1 (newer_trans HB.out.1 hG)) (And.intro (HB.out.2.1.below hG HB.out.2.1.lt) (own_below HB.out.2.2 hG)))
          clear hG hR HB HOW HBW x0 x1 x2 x3 x4 x5 y0 y1 y2
          obtain ⟨wx, hwx⟩ : ∃ wx, wx = W := ⟨_, rfl⟩
          rw [← hwx] at HF ⊢
          clear hwx W
          have hml := missK_len q p.ns k
          by_cases hlo : tg < n.due
          · have HY := Lib.hid (missK_yes (q := q) HNK.out.1 (by rw [HNK.out.2, decide_eq_true hlo]))
            have HO := Lib.hid (own_below HF.out.2.2 (newer_allocH wx (.cells #[vi k] 3)))
            have HN := Lib.hid (newer_trans HF.out.1 (newer_allocH wx (.cells #[vi k] 3)))
            have HBX := Lib.hid (HF.out.2.1.alloc (.cells #[vi k] 3))
            have HNW := Lib.hid (World.news_of_block (Whole.made wx 3 #[vi k]))
            have hbs := HF.out.1.size
            have hsv := HF.out.2.2
            obtain ⟨hi0, hz0, hz1, hz2⟩ := HI.out
            clear HF hsv
            go_wp2_with (at_builtin; go_loud ((refine wpList_append_lies _ rfl (.tmp 34) (.tmp 36) 25 rfl w.heap.size 3 i0 (.int .i64 0) 1 8 Try.underlying25 hi0 hz0 hz1 hz2 rfl (by omega) _ (missK q p.ns k).length _ rfl HO.out ⟨wx.heap.size, 0, none⟩ 1 1 [vi k] rfl rfl HNW.out (by simp [Value.oneCell']) (by omega) (by unfold maxLen; omega) (by omega) (by simp; omega) (wx.heap.size + 1) (by simp) ?_); intro gg cp2 w2 hown2 hgrow2 hat2 hlt2; have HG := Lib.hid (And.intro hown2 (And.intro (HN.out.grown hgrow2 HN.out.size (own_ge HO.out)) (HBX.out.grown hgrow2 (own_ne HO.out HBX.out (by decide)).symm))); clear hown2 hgrow2 hat2 hlt2 hi0 hz0 hz1 hz2 hbs))
            go_roundw
            case rel =>
              refine ⟨k + 1, by omega, by go_num, HG.out.2.1, HG.out.2.2, ?_⟩
              rw [HY.out, List.length_append, List.flatMap_append]
              exact HG.out.1
            case measure => simp [intOf]; omega
          · have HY := Lib.hid (missK_no (q := q) HNK.out.1 (by rw [HNK.out.2, decide_eq_false hlo]))
            go_wp2_with fail
            go_roundw
            case rel => exact ⟨k + 1, by omega, by go_num, HF.out.1, HF.out.2.1, by rw [HY.out]; exact HF.out.2.2⟩
            case measure => simp [intOf]; omega
      · obtain rfl : k = p.ns.length := by omega
        have hkn : ¬ ((p.ns.length : Int) < p.ns.length) := by omega
        obtain ⟨A2, c2, rfl⟩ := own_form hown
        have HF := Lib.hid (And.intro hbw hown)
        clear hbw hown hbx
        go_wp2_with fail
        exact bodyPost_ret (v := .tuple #[.slice A2 (missK q p.ns p.ns.length).length c2, vi 0]) (by simp [results, Try.results36, go_sem]) rfl ⟨A2, ⟨c2, rfl⟩, row_of_own (by omega) (fun _ => rfl) HF.out.2, HF.out.1⟩
  · rw [if_neg hc]
    obtain ⟨f, hff⟩ : ∃ f, f = checkN p.pj plan := ⟨_, rfl⟩
    rw [← hff] at HCK hc ⊢
    have hfb : (f != 0) = true := by simpa using hc
    clear hc hff hok few hr
    go_enter Try.func36, Try.ntmps36
    go_wp2_with (go_at_call 54; refine (HCK.out).mono ?_; rintro e w1 ⟨rfl, hb1⟩)
    exact bodyPost_ret (v := .tuple #[.slice none 0 0, vi f]) (by simp [results, Try.results36, go_sem]) rfl ⟨none, 0, rfl, Row.nil _, newer_trans HW.out.2 hb1⟩
end Go.Proofs.Ytpnpnfjhjjdmgaa
