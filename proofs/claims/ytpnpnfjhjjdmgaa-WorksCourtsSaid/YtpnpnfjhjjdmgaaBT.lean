/- The fewest decisions by the reference, walked. -/
import Derived.Test.YtpnpnfjhjjdmgaaBS
namespace Go.Proofs.Ytpnpnfjhjjdmgaa
open Go.RowKit Go.Deep

set_option maxRecDepth 100000 in
set_option maxHeartbeats 2000000 in
theorem refLess (a b : List Int) (A B : Option Addr) (ac bc : Nat) (w : World) (hl : a.length ≤ 1000) (hab : a.length = b.length) (ha : Row intL 1 w w.heap.size A a) (hb : Row intL 1 w w.heap.size B b) :
    Calls Try.prog 69 #[.slice A a.length ac, .slice B b.length bc] w fun e w' => e = .returned (.bool (lessB a b)) ∧ newer w w' := by
  have HA := Lib.hid ha
  have HB := Lib.hid hb
  have HAB := Lib.hid hab
  have HL := Lib.hid hl
  rw [← hab]
  obtain ⟨A', hA'⟩ : ∃ A', A' = A := ⟨_, rfl⟩
  obtain ⟨B', hB'⟩ : ∃ B', B' = B := ⟨_, rfl⟩
  rw [← hA', ← hB']
  have HAA := Lib.hid (And.intro hA' hB')
  clear ha hb hab hl hA' hB'
  go_enter Try.func69, Try.ntmps69
  go_wp2_with fail
  go_loopw [5] (fun s5 wr => ∃ k : Nat, k ≤ a.length ∧ s5 = .int .i64 k ∧ newer w wr ∧ lessB a b = lessB (a.drop k) (b.drop k)) (fun s5 _ => a.length - (intOf s5).toNat)
  case atStart => exact ⟨0, Nat.zero_le _, rfl, Below.refl _ _, by simp⟩
  case round =>
    obtain ⟨k, hk, rfl, hbw, hls⟩ := hrel
    have HLS := Lib.hid hls
    have HN := Lib.hid hbw
    have hln := HL.out
    clear hls hbw
    by_cases hlt : k < a.length
    · have hkn : (k : Int) < a.length := by omega
      obtain ⟨x, hx⟩ := get_of_lt hlt
      obtain ⟨y, hy⟩ := get_of_lt (l := b) (k := k) (by have := HAB.out; omega)
      obtain ⟨b1, o1, e1, _, cx⟩ := row1 ((HA.out.below HN.out).more HN.out.size) hx
      obtain ⟨b2, o2, e2, _, cy⟩ := row1 ((HB.out.below HN.out).more HN.out.size) hy
      have f1 := HAA.out.1.trans e1
      have f2 := HAA.out.2.trans e2
      clear e1 e2
      subst f1
      subst f2
      have HD : Hid (lessB (a.drop k) (b.drop k) = if x = y then lessB (a.drop (k + 1)) (b.drop (k + 1)) else decide (x < y)) := Lib.hid (by
        obtain ⟨h1, h2⟩ := List.getElem?_eq_some_iff.1 hx
        obtain ⟨h3, h4⟩ := List.getElem?_eq_some_iff.1 hy
        rw [List.drop_eq_getElem_cons h1, List.drop_eq_getElem_cons h3, h2, h4]
        rfl)
      clear hx hy
      by_cases hxy : x = y
      · have HXY : Hid (lessB (a.drop k) (b.drop k) = lessB (a.drop (k + 1)) (b.drop (k + 1))) := Lib.hid (by rw [HD.out, if_pos hxy])
        subst hxy
        go_wp2_with fail
        go_quiet (fail)
        go_wp2_with fail
        exact ⟨⟨k + 1, by omega, by go_num, newer_trans HN.out (newer_drewN _ _), HLS.out.trans HXY.out⟩, by (simp only [intOf]; omega)⟩
      · have HXY : Hid (lessB a b = decide (x < y)) := Lib.hid (by rw [HLS.out, HD.out, if_neg hxy])
        have e1 : (x != y) = true := by rw [bne_iff_ne]; exact hxy
        clear hxy
        go_wp2_with fail
        go_quiet (fail)
        go_wp2_with fail
        go_quiet (fail)
        go_wp2_with fail
        go_ret
        exact ⟨ret_bool HXY.out.symm, newer_trans (newer_trans HN.out (newer_drewN _ _)) (newer_drewN _ _)⟩
    · obtain rfl : k = a.length := by omega
      have hkn : ¬ ((a.length : Int) < a.length) := by omega
      go_wp2_with fail
      go_ret
      exact ⟨ret_bool (by rw [HLS.out, List.drop_length]; rfl), HN.out⟩
theorem ref_chF {q : Pj} (h : FaultOk q) (l : List Int) : (refB (decQ q l) q.works.length []).2 = chF q l := by
  have hd := faultOk_iff.2 (dec_fault h l)
  rw [chF_best h, bestE_refQ hd]
  have : (decQ q l).works.length = q.works.length := rfl
  rw [this]
  cases (refB (decQ q l) q.works.length []).2 <;> rfl
theorem memS_len (n s : Nat) : (memS n s).length ≤ n := numK_len _ n
set_option maxRecDepth 100000 in
set_option maxHeartbeats 8000000 in
theorem refCourt (p : Pm) (w : World) (hok : PmOk p w) (hf : FaultOk p.pj) :
    Calls Try.prog 43 #[pmV p] w fun e w' => (∃ A c, e = .returned (.tuple #[.slice A (refC (notB p.vs) (chF p.pj) p.vs.length (2 ^ p.vs.length)).1.length c, .bool (refC (notB p.vs) (chF p.pj) p.vs.length (2 ^ p.vs.length)).2]) ∧ Row intL 1 w' w'.heap.size A (refC (notB p.vs) (chF p.pj) p.vs.length (2 ^ p.vs.length)).1) ∧ newer w w' := by
  have hnw := newer_allocH w (.cells (pmC p) 27)
  have hbx := Whole.made w 27 (pmC p)
  have HOK := Lib.hid hok
  have HFO := Lib.hid hf
  have HPO := Lib.hid (pjOk_of hf)
  have HV6 : Hid (p.vs.length ≤ 6) := Lib.hid hf.vn
  obtain ⟨nb, hnb⟩ : ∃ nb, nb = notB p.vs := ⟨_, rfl⟩
  have HNB := Lib.hid hnb
  obtain ⟨f, hff⟩ : ∃ f, f = chF p.pj := ⟨_, rfl⟩
  have HF := Lib.hid hff
  obtain ⟨R, hR⟩ : ∃ R, R = refC nb f p.vs.length := ⟨_, rfl⟩
  have HR := Lib.hid hR
  rw [← hnb, ← hff, ← hR]
  obtain ⟨N, hN⟩ : ∃ N, N = 2 ^ p.vs.length := ⟨_, rfl⟩
  rw [← hN]
  have HN := Lib.hid hN
  have HN64 : Hid (N ≤ 64) := Lib.hid (by rw [hN]; have h := HV6.out; calc 2 ^ p.vs.length ≤ 2 ^ 6 := Nat.pow_le_pow_right (by omega) h
                                                                          _ = 64 := rfl)
  clear hN hR hff hnb hf hok
  have H1 := Lib.hid (And.intro (hnw) (hbx))
  clear hnw hbx
  obtain ⟨i3, hi0, hz0, hz1, hz2⟩ := info_parts Try.info3w
  have HI3 := Lib.hid (And.intro hi0 (And.intro hz0 (And.intro hz1 hz2)))
  clear hi0 hz0 hz1 hz2
  go_enter Try.func43, Try.ntmps43
  go_wp2_with fail
  go_loopw [4, 5, 6] (fun s4 s5 s6 wr => ∃ (s : Nat) (A : Option Addr) (c : Nat), s ≤ N ∧ s6 = .int .i64 s ∧ s4 = .slice A (R s).1.length c ∧ s5 = .bool (R s).2 ∧ newer w wr ∧ Whole wr w.heap.size 27 (pmC p) ∧ Row intL 1 wr wr.heap.size A (R s).1) (fun _ _ s6 _ => N - (intOf s6).toNat)
  case atStart => exact ⟨0, none, 0, Nat.zero_le _, rfl, by rw [HR.out]; rfl, by rw [HR.out]; rfl, H1.out.1, H1.out.2, by rw [HR.out]; exact Row.nil _⟩
  case round =>
    obtain ⟨s, A, c, hs, rfl, rfl, rfl, hnw, hb0, hrow⟩ := hrel
    obtain ⟨wo, hwo⟩ : ∃ wo : World, wo = wr := ⟨_, rfl⟩
    rw [← hwo] at hnw hb0 hrow ⊢
    clear hwo wr
    obtain ⟨bl, hbl⟩ : ∃ bl, bl = (R s).1 := ⟨_, rfl⟩
    obtain ⟨bf, hbf⟩ : ∃ bf, bf = (R s).2 := ⟨_, rfl⟩
    have HBL := Lib.hid (And.intro hbl hbf)
    rw [← hbl] at hrow ⊢
    rw [← hbf]
    clear hbl hbf
    have H2 := Lib.hid (And.intro (hnw) (And.intro (hb0) (hrow)))
    clear hnw hb0 hrow
    have hv6 := HV6.out
    have hn64 := HN64.out
    have x4 := H2.out.2.1.at 4 (v := .slice p.va p.vs.length p.vc) rfl
    have eN : wrap64 (2 ^ p.vs.length) = (N : Int) := by
      have h : ((N : Nat) : Int) = 2 ^ p.vs.length := by rw [HN.out]; simp
      rw [← h]
      exact IntWalk.wrap64_in _ (by omega)
    by_cases hsN : s < N
    · have hsi : (s : Int) < (N : Int) := by omega
      go_wp2_with fail
      go_loopw [7, 8, 9] (fun s7 s8 s9 wr => ∃ v : Nat, v ≤ p.vs.length ∧ s9 = .int .i64 v ∧ s8 = .bool (agK nb s v) ∧ newer wo wr ∧ wr.ownsRow wo.heap.size 3 1 s7 (numK (bitS s) v).length ((numK (bitS s) v).flatMap intL)) (fun _ _ s9 _ => p.vs.length - (intOf s9).toNat)
      case atStart => exact ⟨0, Nat.zero_le _, rfl, rfl, Below.refl _ _, ⟨rfl, .inl ⟨rfl, rfl⟩⟩⟩
      case round =>
        obtain ⟨v, hv, rfl, rfl, hbw, ho1⟩ := hrel
        obtain ⟨wi, hwi⟩ : ∃ wi : World, wi = wr := ⟨_, rfl⟩
        rw [← hwi] at hbw ho1 ⊢
        clear hwi wr x4
        have H3 := Lib.hid (And.intro (hbw) (And.intro (newer_trans H2.out.1 hbw) (And.intro (H2.out.2.1.below hbw H2.out.2.1.lt) (And.intro ((H2.out.2.2.below hbw).more hbw.size) (ho1)))))
        clear hbw ho1
        have hlen := numK_len (bitS s) v
        have x4 := H3.out.2.2.1.at 4 (v := .slice p.va p.vs.length p.vc) rfl
        by_cases hlt : v < p.vs.length
        · have hvn : (v : Int) < p.vs.length := by omega
          obtain ⟨b, hb⟩ := get_of_lt hlt
          have HB_ := Lib.hid hb
          have HNV : Hid (nb v = !b) := Lib.hid (by rw [HNB.out]; unfold notB; rw [hb])
          obtain ⟨ab, hab⟩ : ∃ ab, ab = agK nb s v := ⟨_, rfl⟩
          have HAB := Lib.hid hab
          rw [← hab]
          clear hb hab
          have hdv : (0 : Int) ≤ (s : Int) / 2 ^ v := Int.ediv_nonneg (by omega) (by have := Int.pow_pos (n := 2) (m := v) (by omega); omega)
          have hbe : (((s : Int) / 2 ^ v).tmod 2 = 1) ↔ bitS s v = true := by
            rw [Int.tmod_eq_emod_of_nonneg hdv]
            unfold bitS
            rw [decide_eq_true_eq]
            have h : ((s / 2 ^ v % 2 : Nat) : Int) = (s : Int) / 2 ^ v % 2 := by simp
            omega
          cases hbk : bitS s v with
          | false =>
            have HBS := Lib.hid hbk
            have eb : (((s : Int) / 2 ^ v).tmod 2 == (1 : Int)) = false := by
              rw [beq_eq_false_iff_ne]
              intro e
              rw [hbe.1 e] at hbk
              cases hbk
            clear hbk hbe hdv
            have HAK : Hid (agK nb s (v + 1) = ab) := Lib.hid (by unfold agK; rw [← HAB.out, HBS.out]; simp)
            go_wp2_with fail
            exact ⟨⟨v + 1, by omega, by go_num, by rw [HAK.out], H3.out.1, by rw [numK_no HBS.out]; exact H3.out.2.2.2.2⟩, by (simp only [intOf]; omega)⟩
          | true =>
            have HBS := Lib.hid hbk
            have eb : (((s : Int) / 2 ^ v).tmod 2 == (1 : Int)) = true := by
              rw [beq_iff_eq]
              exact hbe.2 hbk
            clear hbk hbe hdv
            have HO := Lib.hid (own_below H3.out.2.2.2.2 (newer_allocH wi (.cells #[.int .i64 v] 3)))
            have HNW := Lib.hid (World.news_of_block (Whole.made wi 3 #[.int .i64 v]))
            have HNN := Lib.hid (newer_trans H3.out.1 (newer_allocH wi (.cells #[.int .i64 v] 3)))
            have hbs := H3.out.1.size
            go_upto_region 13 with (at_builtin; go_loud ((refine wpList_append_lies _ rfl (.tmp 34) (.tmp 36) 25 rfl wo.heap.size 3 i3 (.int .i64 0) 1 8 Try.underlying25 HI3.out.1 HI3.out.2.1 HI3.out.2.2.1 HI3.out.2.2.2 rfl (by omega) _ (numK (bitS s) v).length _ rfl HO.out ⟨wi.heap.size, 0, none⟩ 1 1 [.int .i64 v] rfl rfl HNW.out (by simp [Value.oneCell']) (by omega) (by unfold maxLen; omega) (by omega) (by simp; omega) (wi.heap.size + 1) (by simp) ?_); intro g2 cp2 wa2 hown2 hgrow2 hat2 hlt2; have HG2 := Lib.hid (And.intro (HNN.out.grown hgrow2 HNN.out.size (own_ge HO.out)) hown2); clear hown2 hgrow2 hat2 hlt2 hbs))
            have HNN2 := Lib.hid HG2.out.1
            clear x4
            have x4 := (H2.out.2.1.below HG2.out.1 H2.out.2.1.lt).at 4 (v := .slice p.va p.vs.length p.vc) rfl
            obtain ⟨b3, o3, e3, _, cb⟩ := rowB (HOK.out.next (newer_trans H2.out.1 HG2.out.1)).vs HB_.out
            rw [e3] at x4
            clear e3 eb
            have HAK : Hid (agK nb s (v + 1) = (ab && !b)) := Lib.hid (by unfold agK; rw [← HAB.out, HBS.out]; simp [HNV.out])
            cases ab with
            | false =>
              go_wp2_with fail
              exact ⟨⟨_, _, _, ⟨v + 1, by omega, by go_num, by rw [HAK.out]; rfl, HG2.out.1, by rw [numK_yes HBS.out, List.length_append, List.flatMap_append]; exact HG2.out.2⟩, rfl, rfl, rfl⟩, by (simp only [intOf]; omega)⟩
            | true =>
              go_wp2_with fail
              exact ⟨⟨_, _, _, ⟨v + 1, by omega, by go_num, by rw [HAK.out]; cases b <;> rfl, HG2.out.1, by rw [numK_yes HBS.out, List.length_append, List.flatMap_append]; exact HG2.out.2⟩, rfl, rfl, rfl⟩, by (simp only [intOf]; omega)⟩
        · obtain rfl : v = p.vs.length := by omega
          have hvn : ¬ ((p.vs.length : Int) < p.vs.length) := by omega
          clear hlt eN
          obtain ⟨A7, c7, rfl⟩ := own_form H3.out.2.2.2.2
          have hr7 := row_of_own (enc := intL) (size := 1) (by omega) (fun _ => rfl) H3.out.2.2.2.2
          obtain ⟨ml, hml⟩ : ∃ ml, ml = memS p.vs.length s := ⟨_, rfl⟩
          rw [show numK (bitS s) p.vs.length = ml from hml.symm] at hr7 hlen ⊢
          have HML := Lib.hid hml
          obtain ⟨ak, hak⟩ : ∃ ak, ak = agK nb s p.vs.length := ⟨_, rfl⟩
          have HAK := Lib.hid hak
          rw [← hak]
          have H4 := Lib.hid (And.intro (H3.out.2.1) (And.intro (H3.out.2.2.1) (And.intro (H3.out.2.2.2.1) (hr7))))
          clear hml hak hr7
          have HLM := Lib.hid hlen
          have hll := hlen
          have HST : Hid (R (s + 1) = if outS nb p.vs.length s (bl, bf) then (bl, bf) else if f ml then (ml, true) else (bl, bf)) := Lib.hid (by
            rw [HR.out]
            show stepS nb f p.vs.length (refC nb f p.vs.length s) s = _
            rw [← HR.out]
            unfold stepS
            rw [show R s = (bl, bf) by rw [HBL.out.1, HBL.out.2], HML.out])
          obtain ⟨os, hos⟩ : ∃ os, os = outS nb p.vs.length s (bl, bf) := ⟨_, rfl⟩
          have HOS : Hid (os = (!ak || (bf && (decide (bl.length < ml.length) || (decide (ml.length = bl.length) && !lessB ml bl))))) := Lib.hid (by rw [hos]; unfold outS; rw [← HML.out, ← HAK.out])
          rw [← hos] at HST
          clear hos
          cases ak with
          | false =>
            have hot : os = true := HOS.out
            have HS2 := Lib.hid HST.out
            rw [hot, if_pos rfl] at HS2
            clear hot
            go_wp2_with fail
            exact ⟨⟨s + 1, A, c, by omega, by go_num, by rw [HS2.out], by rw [HS2.out], H4.out.1, H4.out.2.1, by rw [HS2.out]; exact H4.out.2.2.1⟩, by (simp only [intOf]; omega)⟩
          | true =>
            cases bf with
            | false =>
              have hot : os = false := HOS.out
              have HS2 := Lib.hid HST.out
              rw [hot, if_neg (by decide)] at HS2
              clear hot
              have x0 := H4.out.2.1.at 0 (v := vi p.years) rfl
              have x1 := H4.out.2.1.at 1 (v := vi p.slopes) rfl
              have x2 := H4.out.2.1.at 2 (v := .slice p.wa p.ws.length p.wc) rfl
              have x3 := H4.out.2.1.at 3 (v := .slice p.na p.ns.length p.nc) rfl
              have x5 := H4.out.2.1.at 5 (v := .slice p.pa p.ps.length p.pc) rfl
              go_wp2_with fail
              refine (refDecided p ml A7 c7 wi (HOK.out.next H4.out.1) (by omega) (by omega) (fun v hv => by rw [HML.out] at hv; obtain ⟨j, h1, rfl, _⟩ := numK_mem hv; omega) H4.out.2.2.2).mono ?_
              rintro e w5 ⟨⟨p2, rfl, hj2, ho2, -⟩, hb⟩
              have HJ2 := Lib.hid hj2
              clear hj2
              have H6 := Lib.hid (And.intro ((newer_trans H4.out.1 hb)) (And.intro ((H4.out.2.1.below hb H4.out.2.1.lt)) (And.intro (((H4.out.2.2.1.below hb).more hb.size)) (And.intro (((H4.out.2.2.2.below hb).more hb.size)) (ho2)))))
              clear hb ho2 H4 x4 x0 x1 x2 x3 x5
              have hrb := refBest_start p2 (pjOk_of (by rw [HJ2.out]; exact dec_fault HFO.out ml)) p.ws.length (by have h := congrArg (fun q => q.works.length) HJ2.out; simpa [Pm.pj, decQ] using h) _ H6.out.2.2.2.2
              rw [HJ2.out] at hrb
              have hcf := ref_chF HFO.out ml
              rw [show p.pj.works.length = p.ws.length by simp [Pm.pj], ← HF.out] at hcf
              obtain ⟨rb, hrb2⟩ : ∃ rb, rb = refB (decQ p.pj ml) p.ws.length [] := ⟨_, rfl⟩
              rw [← hrb2] at hrb hcf
              obtain ⟨xl, is⟩ := rb
              have HCF := Lib.hid (show is = f ml from hcf)
              have HRB := Lib.hid hrb
              clear hrb hrb2 hcf HJ2
              go_wp2_with fail
              refine (HRB.out).mono ?_
              rintro e w7 ⟨⟨A9, c9, rfl, -⟩, hb⟩
              have H8 := Lib.hid (And.intro ((newer_trans H6.out.1 hb)) (And.intro ((H6.out.2.1.below hb H6.out.2.1.lt)) (And.intro (((H6.out.2.2.1.below hb).more hb.size)) (((H6.out.2.2.2.1.below hb).more hb.size)))))
              clear hb HRB H6
              cases is with
              | false =>
                rw [← HCF.out, if_neg (by decide)] at HS2
                go_wp2_with fail
                exact ⟨⟨s + 1, A, c, by omega, by go_num, by rw [HS2.out], by rw [HS2.out], H8.out.1, H8.out.2.1, by rw [HS2.out]; exact H8.out.2.2.1⟩, by (simp only [intOf]; omega)⟩
              | true =>
                rw [← HCF.out, if_pos rfl] at HS2
                go_wp2_with fail
                exact ⟨⟨s + 1, A7, c7, by omega, by go_num, by rw [HS2.out], by rw [HS2.out], H8.out.1, H8.out.2.1, by rw [HS2.out]; exact H8.out.2.2.2⟩, by (simp only [intOf]; omega)⟩
            | true =>
              by_cases h1 : bl.length < ml.length
              · have hot : os = true := by rw [HOS.out, decide_eq_true h1]; rfl
                have h1i : (bl.length : Int) < ml.length := by omega
                clear h1
                have HS2 := Lib.hid HST.out
                rw [hot, if_pos rfl] at HS2
                clear hot
                go_wp2_with fail
                exact ⟨⟨s + 1, A, c, by omega, by go_num, by rw [HS2.out], by rw [HS2.out], H4.out.1, H4.out.2.1, by rw [HS2.out]; exact H4.out.2.2.1⟩, by (simp only [intOf]; omega)⟩
              · have h1i : ¬ ((bl.length : Int) < ml.length) := by omega
                by_cases h2 : ml.length = bl.length
                · obtain ⟨ls, hls⟩ : ∃ ls, ls = lessB ml bl := ⟨_, rfl⟩
                  have HLS := Lib.hid hls
                  have h2e : ((ml.length : Int) == bl.length) = true := by rw [beq_iff_eq]; omega
                  have HOT : Hid (os = !ls) := Lib.hid (by rw [HOS.out, decide_eq_false h1, decide_eq_true h2, ← hls]; rfl)
                  have HLC := Lib.hid (refLess ml bl A7 A c7 c _ (by omega) h2 H4.out.2.2.2 H4.out.2.2.1)
                  rw [← HLS.out] at HLC
                  clear hls h1 h2
                  go_wp2_with fail
                  refine (HLC.out).mono ?_
                  rintro e w9 ⟨rfl, hb⟩
                  have H10 := Lib.hid (And.intro ((newer_trans H4.out.1 hb)) (And.intro ((H4.out.2.1.below hb H4.out.2.1.lt)) (And.intro (((H4.out.2.2.1.below hb).more hb.size)) (((H4.out.2.2.2.below hb).more hb.size)))))
                  clear hb HLC H4 x4
                  cases ls with
                  | false =>
                    have hot : os = true := HOT.out
                    have HS2 := Lib.hid HST.out
                    rw [hot, if_pos rfl] at HS2
                    clear hot
                    go_wp2_with fail
                    exact ⟨⟨s + 1, A, c, by omega, by go_num, by rw [HS2.out], by rw [HS2.out], H10.out.1, H10.out.2.1, by rw [HS2.out]; exact H10.out.2.2.1⟩, by (simp only [intOf]; omega)⟩
                  | true =>
                    have hot : os = false := HOT.out
                    have HS2 := Lib.hid HST.out
                    rw [hot, if_neg (by decide)] at HS2
                    clear hot
                    have x0 := H10.out.2.1.at 0 (v := vi p.years) rfl
                    have x1 := H10.out.2.1.at 1 (v := vi p.slopes) rfl
                    have x2 := H10.out.2.1.at 2 (v := .slice p.wa p.ws.length p.wc) rfl
                    have x3 := H10.out.2.1.at 3 (v := .slice p.na p.ns.length p.nc) rfl
                    have x4 := H10.out.2.1.at 4 (v := .slice p.va p.vs.length p.vc) rfl
                    have x5 := H10.out.2.1.at 5 (v := .slice p.pa p.ps.length p.pc) rfl
                    go_wp2_with fail
                    refine (refDecided p ml A7 c7 w9 (HOK.out.next H10.out.1) (by omega) (by omega) (fun v hv => by rw [HML.out] at hv; obtain ⟨j, h1, rfl, _⟩ := numK_mem hv; omega) H10.out.2.2.2).mono ?_
                    rintro e w11 ⟨⟨p2, rfl, hj2, ho2, -⟩, hb⟩
                    have HJ2 := Lib.hid hj2
                    clear hj2
                    have H12 := Lib.hid (And.intro ((newer_trans H10.out.1 hb)) (And.intro ((H10.out.2.1.below hb H10.out.2.1.lt)) (And.intro (((H10.out.2.2.1.below hb).more hb.size)) (And.intro (((H10.out.2.2.2.below hb).more hb.size)) (ho2)))))
                    clear hb ho2 H10 x0 x1 x2 x3 x4 x5
                    have hrb := refBest_start p2 (pjOk_of (by rw [HJ2.out]; exact dec_fault HFO.out ml)) p.ws.length (by have h := congrArg (fun q => q.works.length) HJ2.out; simpa [Pm.pj, decQ] using h) _ H12.out.2.2.2.2
                    rw [HJ2.out] at hrb
                    have hcf := ref_chF HFO.out ml
                    rw [show p.pj.works.length = p.ws.length by simp [Pm.pj], ← HF.out] at hcf
                    obtain ⟨rb, hrb2⟩ : ∃ rb, rb = refB (decQ p.pj ml) p.ws.length [] := ⟨_, rfl⟩
                    rw [← hrb2] at hrb hcf
                    obtain ⟨xl, is⟩ := rb
                    have HCF := Lib.hid (show is = f ml from hcf)
                    have HRB := Lib.hid hrb
                    clear hrb hrb2 hcf HJ2
                    go_wp2_with fail
                    refine (HRB.out).mono ?_
                    rintro e w13 ⟨⟨A9, c9, rfl, -⟩, hb⟩
                    have H14 := Lib.hid (And.intro ((newer_trans H12.out.1 hb)) (And.intro ((H12.out.2.1.below hb H12.out.2.1.lt)) (And.intro (((H12.out.2.2.1.below hb).more hb.size)) (((H12.out.2.2.2.1.below hb).more hb.size)))))
                    clear hb HRB H12
                    cases is with
                    | false =>
                      rw [← HCF.out, if_neg (by decide)] at HS2
                      go_wp2_with fail
                      exact ⟨⟨s + 1, A, c, by omega, by go_num, by rw [HS2.out], by rw [HS2.out], H14.out.1, H14.out.2.1, by rw [HS2.out]; exact H14.out.2.2.1⟩, by (simp only [intOf]; omega)⟩
                    | true =>
                      rw [← HCF.out, if_pos rfl] at HS2
                      go_wp2_with fail
                      exact ⟨⟨s + 1, A7, c7, by omega, by go_num, by rw [HS2.out], by rw [HS2.out], H14.out.1, H14.out.2.1, by rw [HS2.out]; exact H14.out.2.2.2⟩, by (simp only [intOf]; omega)⟩
                · have h2e : ((ml.length : Int) == bl.length) = false := by rw [beq_eq_false_iff_ne]; omega
                  have hot : os = false := by rw [HOS.out, decide_eq_false h1, decide_eq_false h2]; rfl
                  clear h1 h2
                  have HS2 := Lib.hid HST.out
                  rw [hot, if_neg (by decide)] at HS2
                  clear hot
                  have x0 := H4.out.2.1.at 0 (v := vi p.years) rfl
                  have x1 := H4.out.2.1.at 1 (v := vi p.slopes) rfl
                  have x2 := H4.out.2.1.at 2 (v := .slice p.wa p.ws.length p.wc) rfl
                  have x3 := H4.out.2.1.at 3 (v := .slice p.na p.ns.length p.nc) rfl
                  have x5 := H4.out.2.1.at 5 (v := .slice p.pa p.ps.length p.pc) rfl
                  go_wp2_with fail
                  refine (refDecided p ml A7 c7 wi (HOK.out.next H4.out.1) (by omega) (by omega) (fun v hv => by rw [HML.out] at hv; obtain ⟨j, h1, rfl, _⟩ := numK_mem hv; omega) H4.out.2.2.2).mono ?_
                  rintro e w15 ⟨⟨p2, rfl, hj2, ho2, -⟩, hb⟩
                  have HJ2 := Lib.hid hj2
                  clear hj2
                  have H16 := Lib.hid (And.intro ((newer_trans H4.out.1 hb)) (And.intro ((H4.out.2.1.below hb H4.out.2.1.lt)) (And.intro (((H4.out.2.2.1.below hb).more hb.size)) (And.intro (((H4.out.2.2.2.below hb).more hb.size)) (ho2)))))
                  clear hb ho2 H4 x4 x0 x1 x2 x3 x5
                  have hrb := refBest_start p2 (pjOk_of (by rw [HJ2.out]; exact dec_fault HFO.out ml)) p.ws.length (by have h := congrArg (fun q => q.works.length) HJ2.out; simpa [Pm.pj, decQ] using h) _ H16.out.2.2.2.2
                  rw [HJ2.out] at hrb
                  have hcf := ref_chF HFO.out ml
                  rw [show p.pj.works.length = p.ws.length by simp [Pm.pj], ← HF.out] at hcf
                  obtain ⟨rb, hrb2⟩ : ∃ rb, rb = refB (decQ p.pj ml) p.ws.length [] := ⟨_, rfl⟩
                  rw [← hrb2] at hrb hcf
                  obtain ⟨xl, is⟩ := rb
                  have HCF := Lib.hid (show is = f ml from hcf)
                  have HRB := Lib.hid hrb
                  clear hrb hrb2 hcf HJ2
                  go_wp2_with fail
                  refine (HRB.out).mono ?_
                  rintro e w17 ⟨⟨A9, c9, rfl, -⟩, hb⟩
                  have H18 := Lib.hid (And.intro ((newer_trans H16.out.1 hb)) (And.intro ((H16.out.2.1.below hb H16.out.2.1.lt)) (And.intro (((H16.out.2.2.1.below hb).more hb.size)) (((H16.out.2.2.2.1.below hb).more hb.size)))))
                  clear hb HRB H16
                  cases is with
                  | false =>
                    rw [← HCF.out, if_neg (by decide)] at HS2
                    go_wp2_with fail
                    exact ⟨⟨s + 1, A, c, by omega, by go_num, by rw [HS2.out], by rw [HS2.out], H18.out.1, H18.out.2.1, by rw [HS2.out]; exact H18.out.2.2.1⟩, by (simp only [intOf]; omega)⟩
                  | true =>
                    rw [← HCF.out, if_pos rfl] at HS2
                    go_wp2_with fail
                    exact ⟨⟨s + 1, A7, c7, by omega, by go_num, by rw [HS2.out], by rw [HS2.out], H18.out.1, H18.out.2.1, by rw [HS2.out]; exact H18.out.2.2.2⟩, by (simp only [intOf]; omega)⟩
    · obtain rfl : s = N := by omega
      have hsi : ¬ ((s : Int) < (s : Int)) := by omega
      go_wp2_with fail
      go_ret2
      refine ⟨⟨A, ⟨c, ?_⟩, by rw [← HBL.out.1]; exact H2.out.2.2⟩, H2.out.1⟩
      rw [← HBL.out.1, ← HBL.out.2]
      rfl
end Go.Proofs.Ytpnpnfjhjjdmgaa
