/- WorksNeeds, walked: it returns true, whatever the project. -/
import Derived.Test.YtpnpnfjhjjdmgaaAZ
namespace Go.Proofs.Ytpnpnfjhjjdmgaa
open Go.ChangeShapes Go.WideShapes Go.ChangeAt Go.RowKit Go.Deep

theorem without_pjOk {p p2 : Pm} {i : Nat} (h : FaultOk p.pj) (hj : p2.pj = withoutQ p.pj i) : PjOk p2 := by
  have hy := congrArg Pj.years hj
  have hs := congrArg Pj.slopes hj
  have hw := congrArg Pj.works hj
  have hn := congrArg Pj.needs hj
  have hv := congrArg Pj.villages hj
  have hp := congrArg Pj.purses hj
  simp only [withoutQ, Pm.pj] at hy hs hw hn hv hp
  have h1 := h.years
  have h2 := h.slopes
  have h3 := h.wn
  have h4 := h.nn
  have h5 := h.vn
  have h6 := h.pn
  simp only [inB, Bool.and_eq_true, decide_eq_true_eq] at h1 h2
  dsimp only [Pm.pj] at h1 h2 h3 h4 h5 h6
  have hwl := congrArg List.length hw
  simp only [List.length_map, List.length_modify] at hwl h3
  have hvl := congrArg List.length hv
  simp only [List.length_append, List.length_singleton] at hvl
  refine ⟨by omega, by omega, by omega, by rw [hn]; omega, by omega, by rw [hp, hy]; exact h6, ?_, ?_, ?_⟩
  · intro n hn'
    rw [hp] at hn'
    have := h.ps n hn'
    simpa only [inB, Bool.and_eq_true, decide_eq_true_eq] using this
  · intro x hx
    have hm : x.d ∈ (p.ws.map (·.d)).modify i (fun x => { x with village := (p.vs.length : Int) }) := by
      rw [← hw]
      exact List.mem_map_of_mem hx
    rw [hy, hs, hvl]
    have ext : ∀ z : Wd, wdB p.years p.slopes p.vs.length z = true → wdB p.years p.slopes (p.vs.length + 1) z = true := by
      intro z hz
      simp only [wdB, Bool.and_eq_true, inB, decide_eq_true_eq] at hz ⊢
      exact ⟨⟨⟨⟨⟨⟨⟨hz.1.1.1.1.1.1.1, hz.1.1.1.1.1.1.2⟩, hz.1.1.1.1.1.2⟩, hz.1.1.1.1.2⟩, hz.1.1.1.2⟩, ⟨hz.1.1.2.1, by omega⟩⟩, hz.1.2⟩, hz.2⟩
    rcases modify_mem hm with hm | ⟨z, hz, he⟩
    · exact ext _ (h.ws _ hm)
    · rw [he]
      have hz2 := h.ws z hz
      dsimp only [Pm.pj] at hz2
      simp only [wdB, Bool.and_eq_true, inB, decide_eq_true_eq] at hz2 ⊢
      exact ⟨⟨⟨⟨⟨⟨⟨hz2.1.1.1.1.1.1.1, hz2.1.1.1.1.1.1.2⟩, hz2.1.1.1.1.1.2⟩, hz2.1.1.1.1.2⟩, hz2.1.1.1.2⟩, ⟨by omega, by omega⟩⟩, hz2.1.2⟩, hz2.2⟩
  · intro x hx
    rw [hn] at hx
    rw [hy, hs]
    exact h.ns x hx
theorem need_of {p : Pm} (h : FaultOk p.pj) (hpo : PjOk p) (i : Nat) : needF p.pj i = !(refB (withoutQ p.pj i) p.pj.works.length []).2 := by
  refine need_ref (pl_ok hpo) (fun x hx => ?_) i
  have := wdB_parts (h.ws x hx)
  exact this.2.2.2.1
theorem bestE_ref {p : Pm} (hf : faultN p.pj = 0) : bestE p.pj = if (refB p.pj p.pj.works.length []).2 = true then 0 else 9 := by
  have h := best_ref (pl_ok (fault_ok hf))
  unfold bestE
  rw [if_pos hf, ← h]
  unfold asO
  cases (refB p.pj p.pj.works.length []).2 <;> rfl
theorem ints_eq (l : List Int) (hl : l.length ≤ 1000) {A B : Option Addr} {c d : Nat} {V : World} (h1 : Row intL 1 V V.heap.size A l) (h2 : Row intL 1 V V.heap.size B l) :
    Calls Try.prog 29 #[.slice A l.length c, .slice B l.length d] V fun e w' => e = .returned (.bool true) ∧ newer V w' := by
  have h := lawInts l l A B c d V hl hl h1 h2
  rw [decide_eq_true (rfl : l = l)] at h
  exact h
theorem refBest_start (p : Pm) (hpo : PjOk p) (n : Nat) (hn : p.ws.length = n) (w : World) (hok : PmOk p w) :
    Calls Try.prog 28 #[pmV p, .slice none 0 0] w (foundC w (refB p.pj n [])) := by
  subst hn
  exact refBest p hpo p.ws.length [] none 0 w hok (Row.nil _) (by simp) rfl
set_option maxRecDepth 100000 in
set_option maxHeartbeats 8000000 in
theorem worksNeeds_walk (p : Pm) (w : World) (hok : PmOk p w) :
    Calls Try.prog 6 #[pmV p] w fun e w' => e = .returned (.bool true) ∧ newer w w' := by
  have hnw := newer_allocH w (.cells (pmC p) 27)
  have hbx := Whole.made w 27 (pmC p)
  have HOK := Lib.hid hok
  have HFW := Lib.hid (lawFew p _ (hok.next hnw))
  have H1 := Lib.hid (And.intro (hnw) (hbx))
  clear hnw hbx hok
  have x0 := H1.out.2.at 0 (v := vi p.years) rfl
  have x1 := H1.out.2.at 1 (v := vi p.slopes) rfl
  have x2 := H1.out.2.at 2 (v := .slice p.wa p.ws.length p.wc) rfl
  have x3 := H1.out.2.at 3 (v := .slice p.na p.ns.length p.nc) rfl
  have x4 := H1.out.2.at 4 (v := .slice p.va p.vs.length p.vc) rfl
  have x5 := H1.out.2.at 5 (v := .slice p.pa p.ps.length p.pc) rfl
  cases hth : fewP p.pj with
  | false =>
    rw [hth] at HFW
    clear hth
    go_enter Try.func6, Try.ntmps6
    go_wp2_with fail
    refine (HFW.out).mono ?_
    rintro e w2 ⟨rfl, hb⟩
    have H3 := Lib.hid (And.intro ((newer_trans H1.out.1 hb)) ((H1.out.2.below hb H1.out.2.lt)))
    clear hb H1 x0 x1 x2 x3 x4 x5
    go_wp2_with (go_at_call 17; refine (wakes_any _).mono ?_; rintro e w' ⟨rfl, hwk⟩; have HWK := Lib.hid (newer_trans H3.out.1 hwk); clear hwk)
    go_ret
    exact ⟨rfl, HWK.out⟩
  | true =>
    rw [hth] at HFW
    have HTP := Lib.hid (few_thin hth)
    have HF := Lib.hid (thin_few HTP.out)
    clear hth
    obtain ⟨f, hf⟩ : ∃ f, f = faultN p.pj := ⟨_, rfl⟩
    have HFE := Lib.hid hf
    have hRF := fun V hV => refFault p V (HOK.out.next hV) HF.out
    rw [← hf] at hRF
    have HRF := Lib.hid hRF
    clear hf hRF
    obtain ⟨E, hE⟩ : ∃ E, E = bestE p.pj := ⟨_, rfl⟩
    obtain ⟨nl, hnl⟩ : ∃ nl, nl = needP p.pj := ⟨_, rfl⟩
    have HEE := Lib.hid hE
    have HNL := Lib.hid hnl
    clear hE hnl
    go_enter Try.func6, Try.ntmps6
    go_wp2_with fail
    refine (HFW.out).mono ?_
    rintro e w4 ⟨rfl, hb⟩
    have H5 := Lib.hid (And.intro ((newer_trans H1.out.1 hb)) ((H1.out.2.below hb H1.out.2.lt)))
    clear hb HFW H1 x0 x1 x2 x3 x4 x5
    have x0 := H5.out.2.at 0 (v := vi p.years) rfl
    have x1 := H5.out.2.at 1 (v := vi p.slopes) rfl
    have x2 := H5.out.2.at 2 (v := .slice p.wa p.ws.length p.wc) rfl
    have x3 := H5.out.2.at 3 (v := .slice p.na p.ns.length p.nc) rfl
    have x4 := H5.out.2.at 4 (v := .slice p.va p.vs.length p.vc) rfl
    have x5 := H5.out.2.at 5 (v := .slice p.pa p.ps.length p.pc) rfl
    go_wp2_with fail
    refine (lawProject p w4 (HOK.out.next H5.out.1) HF.out).mono ?_
    rintro e w6 ⟨⟨p1, rfl, hj1, ho1, hpc⟩, hb⟩
    have HA := Lib.hid (needed_any p1 _ ho1 (thin_few (by rw [hj1]; exact HTP.out)) hpc)
    rw [hj1, ← HEE.out, ← HNL.out] at HA
    have H7 := Lib.hid (And.intro ((newer_trans H5.out.1 hb)) ((H5.out.2.below hb H5.out.2.lt)))
    clear hb hj1 ho1 hpc H5 x0 x1 x2 x3 x4 x5
    go_wp2_with fail
    refine (HA.out).mono ?_
    rintro e w8 ⟨⟨A1, c1, rfl, hr1⟩, hb⟩
    have H9 := Lib.hid (And.intro ((newer_trans H7.out.1 hb)) (And.intro ((H7.out.2.below hb H7.out.2.lt)) (hr1)))
    clear hb hr1 HA H7
    have x0 := H9.out.2.1.at 0 (v := vi p.years) rfl
    have x1 := H9.out.2.1.at 1 (v := vi p.slopes) rfl
    have x2 := H9.out.2.1.at 2 (v := .slice p.wa p.ws.length p.wc) rfl
    have x3 := H9.out.2.1.at 3 (v := .slice p.na p.ns.length p.nc) rfl
    have x4 := H9.out.2.1.at 4 (v := .slice p.va p.vs.length p.vc) rfl
    have x5 := H9.out.2.1.at 5 (v := .slice p.pa p.ps.length p.pc) rfl
    go_wp2_with fail
    refine (HRF.out _ H9.out.1).mono ?_
    rintro e w10 ⟨rfl, hb⟩
    have H11 := Lib.hid (And.intro ((newer_trans H9.out.1 hb)) (And.intro ((H9.out.2.1.below hb H9.out.2.1.lt)) (((H9.out.2.2.below hb).more hb.size))))
    clear hb HRF H9 x0 x1 x2 x3 x4 x5
    by_cases hf0 : f = 0
    case neg =>
      have hEf : E = f := by rw [HEE.out, HFE.out]; unfold bestE; rw [if_neg (by rw [← HFE.out]; exact hf0)]
      subst hEf
      have hnn : nl = [] := by rw [HNL.out]; unfold needP; rw [if_neg (by rw [← HEE.out]; exact hf0)]
      subst hnn
      have b2 : (E != 0) = true := by simpa using hf0
      clear hf0
      go_wp2_with (go_at_call 17; refine (wakes_any _).mono ?_; rintro e w' ⟨rfl, hwk⟩; have HWK := Lib.hid (newer_trans H11.out.1 hwk); clear hwk)
      go_ret
      exact ⟨rfl, HWK.out⟩
    subst hf0
    have HPO := Lib.hid (fault_ok HFE.out.symm)
    have HFO := Lib.hid (faultOk_iff.1 HFE.out.symm)
    have hEr := bestE_ref HFE.out.symm
    rw [← HEE.out] at hEr
    have HWL : Hid (p.pj.works.length = p.ws.length) := Lib.hid (by simp [Pm.pj])
    rw [HWL.out] at hEr
    obtain ⟨rb, hrb⟩ : ∃ rb, rb = refB p.pj p.ws.length [] := ⟨_, rfl⟩
    have HRB := Lib.hid (fun V (hV : newer w V) => refBest_start p HPO.out p.ws.length rfl V (HOK.out.next hV))
    rw [← hrb] at hEr HRB
    obtain ⟨xl, is⟩ := rb
    clear hrb
    have x0 := H11.out.2.1.at 0 (v := vi p.years) rfl
    have x1 := H11.out.2.1.at 1 (v := vi p.slopes) rfl
    have x2 := H11.out.2.1.at 2 (v := .slice p.wa p.ws.length p.wc) rfl
    have x3 := H11.out.2.1.at 3 (v := .slice p.na p.ns.length p.nc) rfl
    have x4 := H11.out.2.1.at 4 (v := .slice p.va p.vs.length p.vc) rfl
    have x5 := H11.out.2.1.at 5 (v := .slice p.pa p.ps.length p.pc) rfl
    cases is with
    | false =>
      obtain rfl : E = 9 := by rw [hEr]; rfl
      clear hEr
      have hnn : nl = [] := by rw [HNL.out]; unfold needP; rw [if_neg (by rw [← HEE.out]; decide)]
      subst hnn
      go_wp2_with fail
      refine (HRB.out _ H11.out.1).mono ?_
      rintro e w12 ⟨⟨A5, c5, rfl, -⟩, hb⟩
      have H13 := Lib.hid (And.intro ((newer_trans H11.out.1 hb)) (And.intro ((H11.out.2.1.below hb H11.out.2.1.lt)) (((H11.out.2.2.below hb).more hb.size))))
      clear hb HRB H11 x0 x1 x2 x3 x4 x5
      go_wp2_with (go_at_call 17; refine (wakes_any _).mono ?_; rintro e w' ⟨rfl, hwk⟩; have HWK := Lib.hid (newer_trans H13.out.1 hwk); clear hwk)
      go_ret
      exact ⟨rfl, HWK.out⟩
    | true =>
      obtain rfl : E = 0 := by rw [hEr]; rfl
      clear hEr
      go_wp2_with fail
      refine (HRB.out _ H11.out.1).mono ?_
      rintro e w14 ⟨⟨A5, c5, rfl, -⟩, hb⟩
      have H15 := Lib.hid (And.intro ((newer_trans H11.out.1 hb)) (And.intro ((H11.out.2.1.below hb H11.out.2.1.lt)) (((H11.out.2.2.below hb).more hb.size))))
      clear hb HRB H11 x0 x1 x2 x3 x4 x5
      have hnl2 : nl = numK (needF p.pj) p.ws.length := by rw [HNL.out]; unfold needP; rw [if_pos HEE.out.symm, HWL.out]
      obtain ⟨fq, hfq⟩ : ∃ fq, fq = needF p.pj := ⟨_, rfl⟩
      rw [← hfq] at hnl2
      have HFQ := Lib.hid hfq
      subst hnl2
      have HNK : Hid (∀ k, (numK fq k).length ≤ k) := Lib.hid (numK_len fq)
      have HW8 := Lib.hid HPO.out.wn
      clear hfq
      obtain ⟨i3, hi0, hz0, hz1, hz2⟩ := info_parts Try.info3w
      have HI3 := Lib.hid (And.intro hi0 (And.intro hz0 (And.intro hz1 hz2)))
      clear hi0 hz0 hz1 hz2
      go_wp2_with fail
      go_loopw [8, 9] (fun s8 s9 wr => ∃ k : Nat, k ≤ p.ws.length ∧ s9 = .int .i64 k ∧ newer w14 wr ∧ wr.ownsRow w14.heap.size 3 1 s8 (numK fq k).length ((numK fq k).flatMap intL)) (fun _ s9 _ => p.ws.length - (intOf s9).toNat)
      case atStart => exact ⟨0, Nat.zero_le _, rfl, Below.refl _ _, by simp [numK], .inl ⟨rfl, rfl⟩⟩
      case round =>
        obtain ⟨k, hk, rfl, hbw, hown⟩ := hrel
        obtain ⟨wo, hwo⟩ : ∃ wo : World, wo = wr := ⟨_, rfl⟩
        rw [← hwo] at hbw hown ⊢
        clear hwo wr
        have H16 := Lib.hid (And.intro (hbw) (And.intro (newer_trans H15.out.1 hbw) (And.intro (H15.out.2.1.below hbw H15.out.2.1.lt) (And.intro ((H15.out.2.2.below hbw).more hbw.size) (hown)))))
        clear hbw hown
        have x0 := H16.out.2.2.1.at 0 (v := vi p.years) rfl
        have x1 := H16.out.2.2.1.at 1 (v := vi p.slopes) rfl
        have x2 := H16.out.2.2.1.at 2 (v := .slice p.wa p.ws.length p.wc) rfl
        have x3 := H16.out.2.2.1.at 3 (v := .slice p.na p.ns.length p.nc) rfl
        have x4 := H16.out.2.2.1.at 4 (v := .slice p.va p.vs.length p.vc) rfl
        have x5 := H16.out.2.2.1.at 5 (v := .slice p.pa p.ps.length p.pc) rfl
        by_cases hlt : k < p.ws.length
        · have hkn : (k : Int) < p.ws.length := by omega
          have hwn8 := HW8.out
          go_wp2_with fail
          refine (refWithout p k wo (HOK.out.next H16.out.2.1) HPO.out hlt).mono ?_
          rintro e w17 ⟨⟨p2, rfl, hj2, ho2⟩, hb⟩
          have HB2 := Lib.hid (refBest_start p2 (without_pjOk HFO.out hj2) p.ws.length (by have h := congrArg (fun q => q.works.length) hj2; simpa [Pm.pj, withoutQ] using h) _ ho2)
          rw [hj2] at HB2
          have HQ : Hid ((refB (withoutQ p.pj k) p.ws.length []).2 = !fq k) := Lib.hid (by
            have h := need_of HFO.out HPO.out k
            rw [HWL.out, ← HFQ.out] at h
            rw [h, Bool.not_not])
          obtain ⟨rb, hrb⟩ : ∃ rb, rb = refB (withoutQ p.pj k) p.ws.length [] := ⟨_, rfl⟩
          rw [← hrb] at HB2 HQ
          clear hrb
          obtain ⟨xl2, is2⟩ := rb
          obtain rfl : is2 = !fq k := HQ.out
          have H18 := Lib.hid (And.intro ((newer_trans H16.out.1 hb)) (And.intro ((newer_trans H16.out.2.1 hb)) (And.intro ((H16.out.2.2.1.below hb H16.out.2.2.1.lt)) (And.intro (((H16.out.2.2.2.1.below hb).more hb.size)) ((own_below H16.out.2.2.2.2 hb))))))
          clear hb hj2 ho2 HQ H16 x0 x1 x2 x3 x4 x5
          go_wp2_with fail
          refine (HB2.out).mono ?_
          rintro e w19 ⟨⟨A6, c6, rfl, -⟩, hb⟩
          have H20 := Lib.hid (And.intro ((newer_trans H18.out.1 hb)) (And.intro ((newer_trans H18.out.2.1 hb)) (And.intro ((H18.out.2.2.1.below hb H18.out.2.2.1.lt)) (And.intro (((H18.out.2.2.2.1.below hb).more hb.size)) ((own_below H18.out.2.2.2.2 hb))))))
          clear hb HB2 H18
          cases hq : fq k with
          | false =>
            go_wp2_with fail
            go_roundw
            case rel =>
              refine ⟨k + 1, by omega, by go_num, H20.out.1, ?_⟩
              rw [numK_no hq]
              exact H20.out.2.2.2.2
            case measure => simp [intOf]; omega
          | true =>
            have HY := Lib.hid (numK_yes hq)
            clear hq
            have HO := Lib.hid (own_below H20.out.2.2.2.2 (newer_allocH w19 (.cells #[.int .i64 k] 3)))
            have HN := Lib.hid (newer_trans H20.out.1 (newer_allocH w19 (.cells #[.int .i64 k] 3)))
            have HNW := Lib.hid (World.news_of_block (Whole.made w19 3 #[.int .i64 k]))
            have hbs := H20.out.1.size
            have hml := HNK.out k
            have hwn := HW8.out
            obtain ⟨hi0, hz0, hz1, hz2⟩ := HI3.out
            go_wp2_with (at_builtin; go_loud ((refine wpList_append_lies _ rfl (.tmp 70) (.tmp 72) 25 rfl w14.heap.size 3 i3 (.int .i64 0) 1 8 Try.underlying25 hi0 hz0 hz1 hz2 rfl (by omega) _ (numK fq k).length _ rfl HO.out ⟨w19.heap.size, 0, none⟩ 1 1 [.int .i64 k] rfl rfl HNW.out (by simp [Value.oneCell']) (by omega) (by unfold maxLen; omega) (by omega) (by simp; omega) (w19.heap.size + 1) (by simp) ?_); intro gg cp2 w2 hown2 hgrow2 hat2 hlt2; have HG2 := Lib.hid (And.intro hown2 (HN.out.grown hgrow2 HN.out.size (own_ge HO.out))); clear hown2 hgrow2 hat2 hlt2 hi0 hz0 hz1 hz2 hbs))
            go_roundw
            case rel =>
              refine ⟨k + 1, by omega, by go_num, HG2.out.2, ?_⟩
              rw [HY.out, List.length_append, List.flatMap_append]
              exact HG2.out.1
            case measure => simp [intOf]; omega
        · obtain rfl : k = p.ws.length := by omega
          have hkn : ¬ ((p.ws.length : Int) < p.ws.length) := by omega
          obtain ⟨A2, c2, rfl⟩ := own_form H16.out.2.2.2.2
          have HR2 := Lib.hid (row_of_own (enc := intL) (size := 1) (by omega) (fun _ => rfl) H16.out.2.2.2.2)
          have HLE : Hid ((numK fq p.ws.length).length ≤ 1000) := Lib.hid (by have := HNK.out p.ws.length; have := HW8.out; omega)
          go_wp2_with (first | (go_at_call 29; refine (ints_eq _ HLE.out H16.out.2.2.2.1 HR2.out).mono ?_; rintro e w29 ⟨rfl, hb⟩; have H21 := Lib.hid (And.intro ((newer_trans H16.out.1 hb)) (And.intro ((newer_trans H16.out.2.1 hb)) (And.intro ((H16.out.2.2.1.below hb H16.out.2.2.1.lt)) (((H16.out.2.2.2.1.below hb).more hb.size))))); clear hb HR2 H16 x0 x1 x2 x3 x4 x5) | (go_at_call 17; refine (wakes_any _).mono ?_; rintro e w' ⟨rfl, hwk⟩; have HWK := Lib.hid (newer_trans H21.out.2.1 hwk); clear hwk))
          go_ret
          exact ⟨rfl, HWK.out⟩
end Go.Proofs.Ytpnpnfjhjjdmgaa
