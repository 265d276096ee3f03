/- The fewest decisions: Court. -/
import Derived.Test.YtpnpnfjhjjdmgaaBN
import Derived.WalkMore
namespace Go.Proofs.Ytpnpnfjhjjdmgaa
open Go.RowKit Go.Deep

/-- The villages that do not agree. -/
def notB (vs : List Bool) (k : Nat) : Bool := match vs[k]? with
  | some b => !b
  | none => false
def agN (q : Pj) : List Int := numK (notB q.villages) q.villages.length
theorem numK_mem {f : Nat → Bool} : ∀ {n : Nat} {z : Int}, z ∈ numK f n → ∃ k : Nat, k < n ∧ z = k ∧ f k = true
  | 0, z, h => by simp [numK] at h
  | n + 1, z, h => by
    cases hf : f n with
    | true =>
      rw [numK_yes hf] at h
      rcases List.mem_append.1 h with h | h
      · obtain ⟨k, h1, h2⟩ := numK_mem h
        exact ⟨k, by omega, h2⟩
      · rw [List.mem_singleton] at h
        exact ⟨n, by omega, h, hf⟩
    | false =>
      rw [numK_no hf] at h
      obtain ⟨k, h1, h2⟩ := numK_mem h
      exact ⟨k, by omega, h2⟩
/-- The first of all lists that is enough, of fewer than so many. -/
def courtK (f : List Int → Bool) (ag : List Int) : Nat → Option (List Int)
  | 0 => none
  | k + 1 => (courtK f ag k).orElse fun _ => chooseD f ag [] 0 k
def courtR (q : Pj) : Option (List Int) := courtK (chF q) (agN q) ((agN q).length + 1)
def courtL (q : Pj) : List Int := if faultN q = 0 then (courtR q).getD [] else []
def courtE (q : Pj) : Int := if faultN q = 0 then (if (courtR q).isSome = true then 0 else 7) else faultN q
theorem court_stop {f : List Int → Bool} {ag : List Int} {k : Nat} {x : List Int} (h0 : courtK f ag k = none) (h : chooseD f ag [] 0 k = some x) : ∀ n, k < n → courtK f ag n = some x
  | 0, hn => by omega
  | n + 1, hn => by
    by_cases he : n = k
    · subst he
      show (courtK f ag n).orElse _ = _
      rw [h0, h]
      rfl
    · have := court_stop h0 h n (by omega)
      show (courtK f ag n).orElse _ = _
      rw [this]
      rfl
set_option maxRecDepth 100000 in
set_option maxHeartbeats 8000000 in
theorem court_any (p : Pm) (w : World) (hok : PmOk p w) (few : PmFew p) (hpc : p.ps.length ≤ p.pc) :
    Calls Try.prog 42 #[pmV p] w fun e w' => (∃ A c, e = .returned (.tuple #[.slice A (courtL p.pj).length c, vi (courtE p.pj)]) ∧ Row intL 1 w' w'.heap.size A (courtL p.pj)) ∧ newer w w' := by
  have hnw := newer_allocH w (.cells (pmC p) 35)
  have hbx := Whole.made w 35 (pmC p)
  have HOK := Lib.hid hok
  have HPC := Lib.hid hpc
  have HCK := Lib.hid (checkProject_any p _ (hok.next hnw) few)
  obtain ⟨L, hL⟩ : ∃ L, L = courtL p.pj := ⟨_, rfl⟩
  have HL := Lib.hid hL
  obtain ⟨E, hE⟩ : ∃ E, E = courtE p.pj := ⟨_, rfl⟩
  have HE := Lib.hid hE
  obtain ⟨f, hf⟩ : ∃ f, f = faultN p.pj := ⟨_, rfl⟩
  have HFE := Lib.hid hf
  rw [← hL, ← hE]
  rw [← hf] at HCK
  clear hL hE hf
  have H1 := Lib.hid (And.intro (hnw) (hbx))
  clear hnw hbx hok few hpc
  have x0 := H1.out.2.at 0 (v := vi p.years) rfl
  have x1 := H1.out.2.at 1 (v := vi p.slopes) rfl
  have x2 := H1.out.2.at 2 (v := .slice p.wa p.ws.length p.wc) rfl
  have x3 := H1.out.2.at 3 (v := .slice p.na p.ns.length p.nc) rfl
  have x4 := H1.out.2.at 4 (v := .slice p.va p.vs.length p.vc) rfl
  have x5 := H1.out.2.at 5 (v := .slice p.pa p.ps.length p.pc) rfl
  go_enter Try.func42, Try.ntmps42
  go_wp2_with fail
  go_step3
  go_wp2_with fail
  refine (HCK.out).mono ?_
  rintro e w2 ⟨rfl, hb⟩
  have H3 := Lib.hid (And.intro ((newer_trans H1.out.1 hb)) ((H1.out.2.below hb H1.out.2.lt)))
  clear hb HCK H1 x0 x1 x2 x3 x4 x5
  by_cases hf0 : f = 0
  case neg =>
    have hEf : E = f := by rw [HE.out, HFE.out]; unfold courtE; rw [if_neg (by rw [← HFE.out]; exact hf0)]
    subst hEf
    have hLl : L = [] := by rw [HL.out]; unfold courtL; rw [if_neg (by rw [← HFE.out]; exact hf0)]
    subst hLl
    have b2 : (E != 0) = true := by simpa using hf0
    clear hf0
    go_wp2_with fail
    rw [Exit.noGoto_ret]
    go_ret2
    exact ⟨⟨none, 0, rfl, Row.nil _⟩, H3.out.1⟩
  subst hf0
  have HFO := Lib.hid (faultOk_iff.1 HFE.out.symm)
  have HPO := Lib.hid (fault_ok HFE.out.symm)
  have HV6 : Hid (p.vs.length ≤ 6) := Lib.hid HFO.out.vn
  obtain ⟨nb, hnb⟩ : ∃ nb, nb = notB p.vs := ⟨_, rfl⟩
  have HNB := Lib.hid hnb
  have HNK : Hid (∀ k, (numK nb k).length ≤ k) := Lib.hid (numK_len nb)
  clear hnb
  obtain ⟨i3, hi0, hz0, hz1, hz2⟩ := info_parts Try.info3w
  have HI3 := Lib.hid (And.intro hi0 (And.intro hz0 (And.intro hz1 hz2)))
  clear hi0 hz0 hz1 hz2
  have x0 := H3.out.2.at 0 (v := vi p.years) rfl
  have x1 := H3.out.2.at 1 (v := vi p.slopes) rfl
  have x2 := H3.out.2.at 2 (v := .slice p.wa p.ws.length p.wc) rfl
  have x3 := H3.out.2.at 3 (v := .slice p.na p.ns.length p.nc) rfl
  have x4 := H3.out.2.at 4 (v := .slice p.va p.vs.length p.vc) rfl
  have x5 := H3.out.2.at 5 (v := .slice p.pa p.ps.length p.pc) rfl
  go_upto_region 5 with fail
  refine genQ (fun X => newer w X ∧ Whole X w.heap.size 35 (pmC p) ∧ Whole X w2.heap.size 25 #[.slice none 0 0]) ⟨(newer_trans H3.out.1 (newer_allocH w2 (.cells #[.slice none 0 0] 25))), (H3.out.2.below (newer_allocH w2 (.cells #[.slice none 0 0] 25)) H3.out.2.lt), Whole.made _ _ _⟩ ?_
  obtain ⟨ab, hab⟩ : ∃ ab, ab = w2.heap.size := ⟨_, rfl⟩
  have Lab := Lib.hid (show w.heap.size ≤ ab ∧ w.heap.size < ab ∧ w2.heap.size ≤ ab by rw [hab]; exact ⟨H3.out.1.size, H3.out.2.lt, Nat.le_refl _⟩)
  rw [← hab]
  clear hab x0 x1 x2 x3 x4 x5
  rintro w4 ⟨g0_, g1_, g2_⟩
  have H5 := Lib.hid (And.intro (g0_) (And.intro (g1_) (g2_)))
  clear g0_ g1_ g2_ H3
  have x4 := H5.out.2.1.at 4 (v := .slice p.va p.vs.length p.vc) rfl
  go_wp2_with fail
  go_loopw [22] (fun s22 wr => ∃ (k : Nat) (sv : Value), k ≤ p.vs.length ∧ s22 = .int .i64 k ∧ newer w wr ∧ Whole wr w.heap.size 35 (pmC p) ∧ Whole wr ab 25 #[sv] ∧ wr.ownsRow w.heap.size 3 1 sv (numK nb k).length ((numK nb k).flatMap intL)) (fun s22 _ => p.vs.length - (intOf s22).toNat)
  case atStart => exact ⟨0, _, Nat.zero_le _, rfl, H5.out.1, H5.out.2.1, H5.out.2.2, by simp [numK], .inl ⟨rfl, rfl⟩⟩
  case round =>
    obtain ⟨k, sv, hk, rfl, hnw, hb0, hab, hown⟩ := hrel
    obtain ⟨wo, hwo⟩ : ∃ wo : World, wo = wr := ⟨_, rfl⟩
    rw [← hwo] at hnw hb0 hab hown ⊢
    clear hwo wr
    have H6 := Lib.hid (And.intro (hnw) (And.intro (hb0) (And.intro (hab) (hown))))
    clear hnw hb0 hab hown
    have hv6 := HV6.out
    obtain ⟨svA, svc, rfl⟩ := own_form H6.out.2.2.2
    by_cases hlt : k < p.vs.length
    · have hkn : (k : Int) < p.vs.length := by omega
      obtain ⟨b, hb⟩ := get_of_lt hlt
      obtain ⟨b2, o2, e2, _, cb⟩ := rowB (HOK.out.next H6.out.1).vs hb
      have HAA := Lib.hid e2
      have HNV : Hid (nb k = !b) := Lib.hid (by rw [HNB.out]; unfold notB; rw [hb])
      clear hb
      rw [e2]
      clear e2
      have z0 := H6.out.2.2.1.at 0 (v := .slice svA (numK nb k).length svc) rfl
      cases b with
      | true =>
        have HNO := Lib.hid (numK_no (f := nb) (k := k) HNV.out)
        go_wp2_with fail
        exact ⟨⟨k + 1, _, by omega, by go_num, H6.out.1, H6.out.2.1, H6.out.2.2.1, by rw [HNO.out]; exact H6.out.2.2.2⟩, by (simp only [intOf]; omega)⟩
      | false =>
        have HYS := Lib.hid (numK_yes (f := nb) (k := k) HNV.out)
        have hnk := HNK.out k
        have za := cell_alloc z0 (.cells #[.int .i64 k] 3)
        have HO := Lib.hid (own_below H6.out.2.2.2 (newer_allocH wo (.cells #[.int .i64 k] 3)))
        have HNW := Lib.hid (World.news_of_block (Whole.made wo 3 #[.int .i64 k]))
        have HNN := Lib.hid (newer_trans H6.out.1 (newer_allocH wo (.cells #[.int .i64 k] 3)))
        have HN0 := Lib.hid (H6.out.2.1.alloc (.cells #[.int .i64 k] 3))
        have HNA := Lib.hid (H6.out.2.2.1.alloc (.cells #[.int .i64 k] 3))
        have hbs := H6.out.1.size
        go_wp2_with (at_builtin; go_loud ((refine wpList_append_lies _ rfl (.tmp 29) (.tmp 31) 25 rfl w.heap.size 3 i3 (.int .i64 0) 1 8 Try.underlying25 HI3.out.1 HI3.out.2.1 HI3.out.2.2.1 HI3.out.2.2.2 rfl (by omega) _ (numK nb k).length _ rfl HO.out ⟨wo.heap.size, 0, none⟩ 1 1 [.int .i64 k] rfl rfl HNW.out (by simp [Value.oneCell']) (by omega) (by unfold maxLen; omega) (by omega) (by simp; omega) (wo.heap.size + 1) (by simp) ?_); intro gg cp2 w2 hown2 hgrow2 hat2 hlt2; have HG2 := Lib.hid (And.intro hown2 (And.intro (HNN.out.grown hgrow2 HNN.out.size (own_ge HO.out)) (And.intro (HN0.out.grown hgrow2 (own_ne HO.out HN0.out (by decide)).symm) (HNA.out.grown hgrow2 (own_ne HO.out HNA.out (by decide)).symm)))); clear hown2 hgrow2 hat2 hlt2 hbs za z0; have z0 := HG2.out.2.2.2.at 0 (v := .slice svA (numK nb k).length svc) rfl; have zf := HG2.out.2.2.2.free 0))
        refine ⟨⟨k + 1, (.slice (some ⟨gg, 0, none⟩) ((numK nb k).length + 1) cp2), by omega, by go_num, HG2.out.2.1.setCell (p := ⟨ab, 0, none⟩) Lab.out.1 _, HG2.out.2.2.1.far (p := ⟨ab, 0, none⟩) (Nat.ne_of_lt Lab.out.2.1) _, HG2.out.2.2.2.set 0 _, ?_⟩, by (simp only [intOf]; omega)⟩
        rw [HYS.out, List.length_append, List.flatMap_append]
        exact own_set HG2.out.1 (own_ne HG2.out.1 HG2.out.2.2.2 (by decide)) _
    · obtain rfl : k = p.vs.length := by omega
      have hkn : ¬ ((p.vs.length : Int) < p.vs.length) := by omega
      have HRA := Lib.hid (row_of_own (enc := intL) (size := 1) (by omega) (fun _ => rfl) H6.out.2.2.2)
      obtain ⟨ag, hag⟩ : ∃ ag, ag = numK nb p.vs.length := ⟨_, rfl⟩
      have hagl := HNK.out p.vs.length
      have HAG : Hid (ag = agN p.pj) := Lib.hid (by rw [hag, HNB.out]; rfl)
      have hab2 : Whole wo ab 25 #[.slice svA ag.length svc] := by rw [hag]; exact H6.out.2.2.1
      have har2 : Row intL 1 wo wo.heap.size svA ag := by rw [hag]; exact HRA.out
      have H7 := Lib.hid (And.intro (H6.out.1) (And.intro (H6.out.2.1) (And.intro (hab2) (Below.refl wo.heap.size wo))))
      have HAR := Lib.hid har2
      have HAL : Hid (ag.length ≤ 8) := Lib.hid (by rw [hag]; omega)
      clear hagl HRA hag hab2 har2
      go_upto_region 12 with fail
      refine genQ (fun X => newer w X ∧ Whole X w.heap.size 35 (pmC p) ∧ Whole X ab 25 #[.slice svA ag.length svc] ∧ newer wo X ∧ Whole X wo.heap.size 111 #[.nilFunc]) ⟨(newer_trans H7.out.1 (newer_allocH wo (.cells #[.nilFunc] 111))), (H7.out.2.1.below (newer_allocH wo (.cells #[.nilFunc] 111)) H7.out.2.1.lt), (H7.out.2.2.1.below (newer_allocH wo (.cells #[.nilFunc] 111)) H7.out.2.2.1.lt), (newer_trans H7.out.2.2.2 (newer_allocH wo (.cells #[.nilFunc] 111))), Whole.made _ _ _⟩ ?_
      obtain ⟨fb, hfb⟩ : ∃ fb, fb = wo.heap.size := ⟨_, rfl⟩
      have Lfb := Lib.hid (show w.heap.size ≤ fb ∧ w.heap.size < fb ∧ ab < fb ∧ wo.heap.size ≤ fb by rw [hfb]; exact ⟨H7.out.1.size, H7.out.2.1.lt, H7.out.2.2.1.lt, Nat.le_refl _⟩)
      rw [← hfb]
      clear hfb
      rintro w8 ⟨g0_, g1_, g2_, g3_, g4_⟩
      have H9 := Lib.hid (And.intro (g0_) (And.intro (g1_) (And.intro (g2_) (And.intro (g3_) (g4_)))))
      clear g0_ g1_ g2_ g3_ g4_ H7
      have cf := H9.out.2.2.2.2.at 0 (v := .nilFunc) rfl
      have cff := H9.out.2.2.2.2.free 0
      go_upto_region 13 with fail
      refine genQ (fun X => newer w X ∧ Whole X w.heap.size 35 (pmC p) ∧ Whole X ab 25 #[.slice svA ag.length svc] ∧ newer wo X ∧ Whole X fb 111 #[.func (.func 66) #[] #[.pointer (some ⟨w.heap.size, 0, none⟩), .pointer (some ⟨ab, 0, none⟩), .pointer (some ⟨fb, 0, none⟩)]]) ⟨H9.out.1.setCell (p := ⟨fb, 0, none⟩) Lfb.out.1 (.func (.func 66) #[] #[.pointer (some ⟨w.heap.size, 0, none⟩), .pointer (some ⟨ab, 0, none⟩), .pointer (some ⟨fb, 0, none⟩)]), H9.out.2.1.far (p := ⟨fb, 0, none⟩) (Nat.ne_of_lt Lfb.out.2.1) (.func (.func 66) #[] #[.pointer (some ⟨w.heap.size, 0, none⟩), .pointer (some ⟨ab, 0, none⟩), .pointer (some ⟨fb, 0, none⟩)]), H9.out.2.2.1.far (p := ⟨fb, 0, none⟩) (Nat.ne_of_lt Lfb.out.2.2.1) (.func (.func 66) #[] #[.pointer (some ⟨w.heap.size, 0, none⟩), .pointer (some ⟨ab, 0, none⟩), .pointer (some ⟨fb, 0, none⟩)]), H9.out.2.2.2.1.setCell (p := ⟨fb, 0, none⟩) Lfb.out.2.2.2 (.func (.func 66) #[] #[.pointer (some ⟨w.heap.size, 0, none⟩), .pointer (some ⟨ab, 0, none⟩), .pointer (some ⟨fb, 0, none⟩)]), H9.out.2.2.2.2.set 0 (.func (.func 66) #[] #[.pointer (some ⟨w.heap.size, 0, none⟩), .pointer (some ⟨ab, 0, none⟩), .pointer (some ⟨fb, 0, none⟩)])⟩ ?_
      rintro w10 ⟨g0_, g1_, g2_, g3_, g4_⟩
      have H11 := Lib.hid (And.intro (g0_) (And.intro (g1_) (And.intro (g2_) (And.intro (g3_) (g4_)))))
      clear g0_ g1_ g2_ g3_ g4_ H9 cf cff
      have HCM : Hid (ChM p w.heap.size ab fb ag svA svc w10.heap.size w10) := Lib.hid ⟨(HOK.out.next H11.out.1).at, H11.out.2.1, H11.out.2.2.1, (HAR.out.below H11.out.2.2.2.1).more H11.out.2.2.2.1.size, H11.out.2.2.2.2, Nat.le_refl _, H11.out.2.1.lt, H11.out.2.2.1.lt, H11.out.2.2.2.2.lt⟩
      obtain ⟨cf, hcf⟩ : ∃ cf, cf = chF p.pj := ⟨_, rfl⟩
      have HCF := Lib.hid hcf
      have HCH : Hid (∀ (k : Nat) (V : World), k ≤ ag.length → newer w10 V → Calls Try.prog 66 #[.slice none 0 0, .int .i64 0, .int .i64 k, .pointer (some ⟨w.heap.size, 0, none⟩), .pointer (some ⟨ab, 0, none⟩), .pointer (some ⟨fb, 0, none⟩)] V fun e W' => (∃ v, e = .returned v ∧ chosenR (chooseD cf ag [] 0 k) v W') ∧ newer V W') := Lib.hid (fun k V hk hV => by
        have hagm : ∀ v ∈ ag, 0 ≤ v ∧ v < p.vs.length := fun v hv => by
          rw [HAG.out] at hv
          obtain ⟨j, hj, rfl, _⟩ := numK_mem hv
          have hj2 : j < p.vs.length := hj
          omega
        have h := choose_any HFO.out HPC.out hagm HAL.out k [] 0 none 0 0 V (HCM.out.next hV) ⟨rfl, .inl ⟨rfl, rfl⟩⟩ (fun _ => rfl) rfl (Nat.zero_le _) (by have := HAL.out; omega) (fun v hv => by simp at hv)
        rw [← hcf] at h
        refine h.mono ?_
        rintro e W' ⟨h1, _, h3⟩
        exact ⟨h1, h3.os, h3.tape, h3.output, h3.size, fun i hi => h3.block i hi (by simp [Value.ownBlock])⟩)
      have hal := HAL.out
      have hfb := H11.out.2.2.2.2.at 0 (v := .func (.func 66) #[] #[.pointer (some ⟨w.heap.size, 0, none⟩), .pointer (some ⟨ab, 0, none⟩), .pointer (some ⟨fb, 0, none⟩)]) rfl
      have hab3 := H11.out.2.2.1.at 0 (v := .slice svA ag.length svc) rfl
      clear hcf
      have e37 : IntKind.i64.wrap ((ag.length : Int) + 1) = ((ag.length + 1 : Nat) : Int) := by rw [IntWalk.i64_in _ (by omega)]; rfl
      go_wp2_with fail
      go_step3
      go_wp2_with fail
      go_loopw [9, 10, 38] (fun s9 s10 s38 wr => ∃ k : Nat, k ≤ ag.length + 1 ∧ s38 = .int .i64 k ∧ s9 = .slice none 0 0 ∧ s10 = .int .i64 7 ∧ newer w10 wr ∧ courtK cf ag k = none) (fun _ _ s38 _ => (ag.length + 1) - (intOf s38).toNat)
      case atStart => exact ⟨0, Nat.zero_le _, rfl, rfl, rfl, Below.refl _ _, rfl⟩
      case round =>
        obtain ⟨k, hk, rfl, rfl, rfl, hbw, hck⟩ := hrel
        obtain ⟨wo2, hwo⟩ : ∃ wo2 : World, wo2 = wr := ⟨_, rfl⟩
        rw [← hwo] at hbw ⊢
        clear hwo wr
        have HN := Lib.hid hbw
        have HK := Lib.hid hck
        have cfb := (H11.out.2.2.2.2.below hbw H11.out.2.2.2.2.lt).at 0 (v := .func (.func 66) #[] #[.pointer (some ⟨w.heap.size, 0, none⟩), .pointer (some ⟨ab, 0, none⟩), .pointer (some ⟨fb, 0, none⟩)]) rfl
        clear hbw hck hfb hab3
        by_cases hlt : k < ag.length + 1
        · have hkn : (k : Int) < ((ag.length + 1 : Nat) : Int) := by omega
          go_wp2_with fail
          refine (HCH.out k wo2 (by omega) HN.out).mono ?_
          rintro e w20 ⟨⟨v, rfl, A5, n5, c5, rfl, hx⟩, hb⟩
          have HN2 := Lib.hid (newer_trans HN.out hb)
          have HX := Lib.hid hx
          clear hx hb cfb HN
          cases hch : chooseD cf ag [] 0 k with
          | none =>
            have hno : (none : Option (List Int)).isSome = false := rfl
            rw [hno]
            clear hno
            have HC2 := Lib.hid hch
            clear hch
            go_wp2_with fail
            exact ⟨⟨k + 1, by omega, by go_num, rfl, rfl, HN2.out, by show (courtK cf ag k).orElse _ = _; rw [HK.out, HC2.out]; rfl⟩, by (simp only [intOf]; omega)⟩
          | some x =>
            have hno : (some x).isSome = true := rfl
            rw [hno]
            clear hno
            have hxx := HX.out x hch
            have hcr : courtR p.pj = some x := by
              unfold courtR
              rw [← HAG.out, ← HCF.out]
              exact court_stop HK.out hch _ (by omega)
            obtain rfl : n5 = x.length := hxx.1
            have hLx : L = x := by rw [HL.out]; unfold courtL; rw [if_pos HFE.out.symm, hcr]; rfl
            have hEx : E = 0 := by rw [HE.out]; unfold courtE; rw [if_pos HFE.out.symm, hcr]; rfl
            subst hLx
            subst hEx
            have HRR := Lib.hid hxx.2
            clear hxx hcr hch
            go_wp2_with fail
            try rw [Exit.noGoto_ret]
            go_ret2
            exact ⟨⟨A5, _, rfl, HRR.out⟩, newer_trans H11.out.1 HN2.out⟩
        · obtain rfl : k = ag.length + 1 := by omega
          have hkn : ¬ (((ag.length + 1 : Nat) : Int) < ((ag.length + 1 : Nat) : Int)) := by omega
          have hcr : courtR p.pj = none := by
            unfold courtR
            rw [← HAG.out, ← HCF.out]
            exact HK.out
          have hLx : L = [] := by rw [HL.out]; unfold courtL; rw [if_pos HFE.out.symm, hcr]; rfl
          have hEx : E = 7 := by rw [HE.out]; unfold courtE; rw [if_pos HFE.out.symm, hcr]; rfl
          subst hLx
          subst hEx
          clear hcr
          go_wp2_with fail
          try rw [Exit.noGoto_ret]
          go_ret2
          exact ⟨⟨none, 0, rfl, Row.nil _⟩, newer_trans H11.out.1 HN.out⟩
end Go.Proofs.Ytpnpnfjhjjdmgaa
