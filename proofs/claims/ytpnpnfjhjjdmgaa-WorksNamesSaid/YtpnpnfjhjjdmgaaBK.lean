/- WorksTruth, walked: it returns true, whatever the project, the words, the slope and the year. -/
import Derived.Test.YtpnpnfjhjjdmgaaBJ
import Derived.Test.YtpnpnfjhjjdmgaaAX
namespace Go.Proofs.Ytpnpnfjhjjdmgaa
open Go.ChangeShapes Go.WideShapes Go.ChangeAt Go.RowKit Go.Deep

theorem adds_plan {q : Pj} {plan : List Int} {s y : Nat} (hf : faultN q = 0) (hp : planB q.works plan = true) (hs : (s : Int) < q.slopes) (hy : (y : Int) < q.years) :
    addsV q plan s y = .tuple #[.agg #[vi (togN false s y q.works plan), vi (togN true s y q.works plan)], vi 0] := by
  have hc : checkN q plan = 0 := by
    unfold checkN
    rw [if_pos hf, hp]
    rfl
  have he : addsE q plan s y = 0 := by
    unfold addsE
    rw [if_pos hc, if_pos]
    simp only [inB, Bool.and_eq_true, decide_eq_true_eq]
    omega
  unfold addsV
  rw [if_pos he, Int.toNat_natCast]
theorem adds_of {p : Pm} {q : Pj} {plan : List Int} {s y : Nat} {L : Option Addr} {lp : Nat} {w : World} (hq : p.pj = q) (hok : PmOk p w) (few : PmFew p) (hl : plan.length ≤ 1000) (hf : faultN q = 0) (hp : planB q.works plan = true) (hs : (s : Int) < q.slopes) (hy : (y : Int) < q.years) (hr : Row intL 1 w w.heap.size L plan) :
    Calls Try.prog 20 #[pmV p, .slice L plan.length lp, .int .i64 s, .int .i64 y] w fun e w' => e = .returned (.tuple #[.agg #[vi (togN false s y q.works plan), vi (togN true s y q.works plan)], vi 0]) ∧ newer w w' := by
  subst hq
  have h := worksAdds_any p plan L lp s y w hok few hl hr
  rw [adds_plan hf hp hs hy] at h
  exact h
theorem best_own {p : Pm} {q : Pj} {w : World} (hq : p.pj = q) (hok : PmOk p w) (few : PmFew p) (hpc : p.ps.length ≤ p.pc) :
    Calls Try.prog 27 #[pmV p] w fun e w' => (∃ A c, e = .returned (.tuple #[.slice A (bestL q).length c, vi (costOf (bestR q)), vi (bestE q)]) ∧ w'.ownsRow w.heap.size 3 1 (.slice A (bestL q).length c) (bestL q).length ((bestL q).flatMap intL)) ∧ newer w w' := by
  subst hq
  refine (worksBest_any p w hok few hpc).mono ?_
  rintro e w' ⟨⟨v, rfl, hp⟩, hb⟩
  refine ⟨?_, hb⟩
  unfold bestL
  cases hr : bestR p.pj with
  | none =>
    rw [hr] at hp
    obtain rfl : v = .slice none 0 0 := hp
    exact ⟨none, 0, rfl, by simp, .inl ⟨rfl, rfl⟩⟩
  | some z =>
    rw [hr] at hp
    obtain ⟨⟨A, c, rfl, _⟩, ho⟩ := hp
    exact ⟨A, c, rfl, by rw [← map_intL]; exact ho⟩
/-- A list, in memory. -/
structure Sl where
  l : List Int
  a : Option Addr
  c : Nat
abbrev slV (z : Sl) : Value := .slice z.a z.l.length z.c
abbrev slL (z : Sl) : List Value := [slV z]
theorem row_sl {w : World} {B : Nat} {A : Option Addr} {l : List Sl} (h : Row slL 1 w B A l) {k : Nat} {c : Sl} (hk : l[k]? = some c) :
    ∃ b off, A = some ⟨b, off, none⟩ ∧ b < B ∧ w.cell? ⟨b, off + k, none⟩ = some (slV c) := by
  obtain ⟨b, off, e, hb, hc⟩ := h (ne_nil_of_get hk)
  exact ⟨b, off, e, hb, by simpa using hc k c hk 0 _ rfl⟩
theorem own_of_whole {w : World} {base g : Nat} {t : TypeId} {cs : Array Value} {n : Nat} (h : Whole w g t cs) (hb : base ≤ g) (hn : cs.size = n) (hm : n ≤ maxLen) : w.ownsRow base t 1 (.slice (some ⟨g, 0, none⟩) n n) n cs.toList :=
  ⟨by simp [hn], .inr ⟨g, n, cs, rfl, hb, h, Nat.le_refl _, hm, by simp [hn], by rw [Nat.mul_one, List.take_of_length_le (by simp [hn])]⟩⟩
theorem Try.info25 : (Try.prog.info? 25).map (fun i => (i.zero, i.size, i.bytes)) = some (some (.slice none 0 0), 1, 24) := by kernel_rfl
theorem Try.underlying75 : Try.prog.underlying 75 = some (.slice 25) := by kernel_rfl
def vPrj (q : Pj) (v : Value) (W : World) : Prop := ∃ p : Pm, v = pmV p ∧ p.pj = q ∧ PmOk p W ∧ p.ps.length ≤ p.pc
theorem vPrj_st {q : Pj} : ∀ v W W', vPrj q v W → newer W W' → vPrj q v W' := fun _ _ _ ⟨p, h1, h2, h3, h4⟩ hb => ⟨p, h1, h2, h3.next hb, h4⟩
def vLst (l : List Int) (v : Value) (W : World) : Prop := ∃ A c, v = .slice A l.length c ∧ Row intL 1 W W.heap.size A l
theorem vLst_st {l : List Int} : ∀ v W W', vLst l v W → newer W W' → vLst l v W' := fun _ _ _ ⟨A, c, h1, h2⟩ hb => ⟨A, c, h1, (h2.below hb).more hb.size⟩
/-- The plans that are tried. -/
structure PlsOk (q : Pj) (P : List Sl) (W : World) : Prop where
  rows : ∀ z ∈ P, Row intL 1 W W.heap.size z.a z.l
  plan : ∀ z ∈ P, planB q.works z.l = true
  best : ∀ z, P[1]? = some z → suffB q z.l = true
  len : P.length ≤ 2
theorem PlsOk.next {q : Pj} {P : List Sl} {W W' : World} (h : PlsOk q P W) (hb : newer W W') : PlsOk q P W' := ⟨fun z hz => ((h.rows z hz).below hb).more hb.size, h.plan, h.best, h.len⟩
theorem plan_years {q : Pj} {plan : List Int} (h : FaultOk q) (hp : planB q.works plan = true) : ∀ b ∈ plan, -1 ≤ b ∧ b ≤ 1000 := by
  intro b hb
  obtain ⟨k, hk⟩ := List.getElem?_of_mem hb
  have hl := (plan_iff.1 hp).1
  obtain ⟨x, hx⟩ := get_of_lt (l := q.works) (k := k) (by have := (List.getElem?_eq_some_iff.1 hk).1; omega)
  have h1 := (plan_iff.1 hp).2 k b x hk hx
  have h2 := (wdB_parts (h.ws x (List.mem_of_getElem? hx))).2.1
  have h3 := h.years
  simp only [inB, Bool.and_eq_true, decide_eq_true_eq] at h3
  omega
/-- A plan that suffices is enough for each need, in each truth. -/
theorem tru_due {q : Pj} {plan : List Int} {hs : List Hlf} {n : Nd} (h : FaultOk q) (hs2 : suffB q plan = true) (hn : n ∈ q.needs) : n.due ≤ truK q.works plan hs n.slope.toNat n.year q.works.length := by
  rw [suffB_good (faultOk_iff.2 h), Bool.and_eq_true] at hs2
  have hg := hs2.2
  unfold goodP at hg
  rw [Bool.and_eq_true, decide_eq_true_eq] at hg
  have h1 := miss_zero hg.2 n hn
  have h2 := (tru_whole (ws := q.works) (plan := plan) (hs := hs) (s := n.slope.toNat) (y := n.year) (fun x hx => (wdB_parts (h.ws x hx)).2.2.2.2.2) (plan_iff.1 hs2.1).1).1
  omega
set_option maxRecDepth 100000 in
set_option maxHeartbeats 8000000 in
theorem worksTruth_walk (p : Pm) (bs : List Byt) (B : Option Addr) (bc : Nat) (hs : List Hlf) (H : Option Addr) (hc : Nat) (a3 a4 : Int) (w : World) (h30 : 0 ≤ a3) (h31 : a3 ≤ 255) (h40 : 0 ≤ a4) (h41 : a4 ≤ 255) (hbl : bs.length ≤ maxLen) (hhl : hs.length ≤ maxLen) (hok : PmOk p w) (hrb : Row byL 1 w w.heap.size B bs) (hrh : Row hwL 1 w w.heap.size H hs) :
    Calls Try.prog 10 #[pmV p, .slice B bs.length bc, .slice H hs.length hc, .int .u8 a3, .int .u8 a4] w fun e w' => e = .returned (.bool true) ∧ newer w w' := by
  have hnw := newer_allocH w (.cells (pmC p) 27)
  have hbx := Whole.made w 27 (pmC p)
  have HOK := Lib.hid hok
  have HTH := Lib.hid (lawThin p _ (hok.next hnw))
  have HRB := Lib.hid hrb
  have HRH := Lib.hid hrh
  have HBL := Lib.hid hbl
  have HHL := Lib.hid hhl
  have H1 := Lib.hid (And.intro (hnw) (hbx))
  clear hnw hbx hok hrb hrh hbl hhl
  have x0 := H1.out.2.at 0 (v := vi p.years) rfl
  have x1 := H1.out.2.at 1 (v := vi p.slopes) rfl
  have x2 := H1.out.2.at 2 (v := .slice p.wa p.ws.length p.wc) rfl
  have x3 := H1.out.2.at 3 (v := .slice p.na p.ns.length p.nc) rfl
  have x4 := H1.out.2.at 4 (v := .slice p.va p.vs.length p.vc) rfl
  have x5 := H1.out.2.at 5 (v := .slice p.pa p.ps.length p.pc) rfl
  cases hth : thinP p.pj with
  | false =>
    rw [hth] at HTH
    clear hth
    go_enter Try.func10, Try.ntmps10
    go_wp2_with fail
    refine (HTH.out).mono ?_
    rintro e w2 ⟨rfl, hb⟩
    have H3 := Lib.hid (And.intro ((newer_trans H1.out.1 hb)) ((H1.out.2.below hb H1.out.2.lt)))
    clear hb H1 x0 x1 x2 x3 x4 x5
    go_wp2_with (go_at_call 17; refine (wakes_any _).mono ?_; rintro e w' ⟨rfl, hwk⟩; have HWK := Lib.hid (newer_trans H3.out.1 hwk); clear hwk)
    go_ret
    exact ⟨rfl, HWK.out⟩
  | true =>
    rw [hth] at HTH
    have HTP := Lib.hid hth
    have HF := Lib.hid (thin_few hth)
    clear hth
    obtain ⟨f, hf⟩ : ∃ f, f = faultN p.pj := ⟨_, rfl⟩
    have HFE := Lib.hid hf
    have hRF := fun V hV => refFault p V (HOK.out.next hV) HF.out
    rw [← hf] at hRF
    have HRF := Lib.hid hRF
    clear hf hRF
    go_enter Try.func10, Try.ntmps10
    go_wp2_with fail
    refine (HTH.out).mono ?_
    rintro e w4 ⟨rfl, hb⟩
    have H5 := Lib.hid (And.intro ((newer_trans H1.out.1 hb)) ((H1.out.2.below hb H1.out.2.lt)))
    clear hb HTH H1 x0 x1 x2 x3 x4 x5
    have x0 := H5.out.2.at 0 (v := vi p.years) rfl
    have x1 := H5.out.2.at 1 (v := vi p.slopes) rfl
    have x2 := H5.out.2.at 2 (v := .slice p.wa p.ws.length p.wc) rfl
    have x3 := H5.out.2.at 3 (v := .slice p.na p.ns.length p.nc) rfl
    have x4 := H5.out.2.at 4 (v := .slice p.va p.vs.length p.vc) rfl
    have x5 := H5.out.2.at 5 (v := .slice p.pa p.ps.length p.pc) rfl
    go_wp2_with fail
    refine (HRF.out _ H5.out.1).mono ?_
    rintro e w6 ⟨rfl, hb⟩
    have H7 := Lib.hid (And.intro ((newer_trans H5.out.1 hb)) ((H5.out.2.below hb H5.out.2.lt)))
    clear hb HRF H5 x0 x1 x2 x3 x4 x5
    by_cases hf0 : f = 0
    case neg =>
      have b2 : (f != 0) = true := by simpa using hf0
      clear hf0
      go_wp2_with (go_at_call 17; refine (wakes_any _).mono ?_; rintro e w' ⟨rfl, hwk⟩; have HWK := Lib.hid (newer_trans H7.out.1 hwk); clear hwk)
      go_ret
      exact ⟨rfl, HWK.out⟩
    subst hf0
    have HPO := Lib.hid (fault_ok HFE.out.symm)
    have HFO := Lib.hid (faultOk_iff.1 HFE.out.symm)
    obtain ⟨q, hq⟩ : ∃ q, q = p.pj := ⟨_, rfl⟩
    have HQ := Lib.hid hq
    clear hq
    rw [← HQ.out] at HTP HFE HFO
    have HWL : Hid (q.works.length = p.ws.length) := Lib.hid (by rw [HQ.out]; simp [Pm.pj])
    have HQS : Hid (q.slopes = p.slopes ∧ q.years = p.years ∧ q.needs = p.ns) := Lib.hid (by rw [HQ.out]; exact ⟨rfl, rfl, rfl⟩)
    obtain ⟨ch, hch⟩ : ∃ ch, ch = chP q bs := ⟨_, rfl⟩
    have HCH := Lib.hid hch
    have HCP : Hid (planB q.works ch = true) := Lib.hid (by rw [hch]; exact chP_plan HFO.out)
    have HCL : Hid (ch.length = p.ws.length) := Lib.hid (by rw [hch, chP_len, HWL.out])
    have HCM : Hid (ch.length ≤ 1000) := Lib.hid (by rw [HCL.out]; have := HPO.out.wn; omega)
    clear hch
    have HCC := Lib.hid (fun (V : World) (hV : newer w V) => chosen_any p bs B bc V (HOK.out.next hV) HPO.out HBL.out ((HRB.out.below hV).more hV.size))
    rw [← HQ.out, ← HCH.out] at HCC
    have x0 := H7.out.2.at 0 (v := vi p.years) rfl
    have x1 := H7.out.2.at 1 (v := vi p.slopes) rfl
    have x2 := H7.out.2.at 2 (v := .slice p.wa p.ws.length p.wc) rfl
    have x3 := H7.out.2.at 3 (v := .slice p.na p.ns.length p.nc) rfl
    have x4 := H7.out.2.at 4 (v := .slice p.va p.vs.length p.vc) rfl
    have x5 := H7.out.2.at 5 (v := .slice p.pa p.ps.length p.pc) rfl
    go_wp2_with fail
    refine (HCC.out _ H7.out.1).mono ?_
    rintro e w8 ⟨⟨AC, cC, rfl, ho1⟩, hb⟩
    have H9 := Lib.hid (And.intro ((newer_trans H7.out.1 hb)) (And.intro ((H7.out.2.below hb H7.out.2.lt)) (ho1)))
    clear hb HCC ho1 H7 x0 x1 x2 x3 x4 x5
    have hsl := HPO.out.slopes
    have hyr := HPO.out.years
    obtain ⟨s, es, hsn⟩ := rem_nat (a := a3) (n := p.slopes) h30 (by omega)
    obtain ⟨y, ey, hyn⟩ := rem_nat (a := a4) (n := p.years) h40 (by omega)
    have c37 : IntKind.i64.wrap a3 = a3 := IntWalk.i64_in _ (by omega)
    have c42 : IntKind.i64.wrap a4 = a4 := IntWalk.i64_in _ (by omega)
    have hs0 : ¬ (p.slopes = 0) := by omega
    have hy0 : ¬ (p.years = 0) := by omega
    have HSY := Lib.hid (And.intro hsn hyn)
    clear hsl hyr
    have x0 := H9.out.2.1.at 0 (v := vi p.years) rfl
    have x1 := H9.out.2.1.at 1 (v := vi p.slopes) rfl
    have x2 := H9.out.2.1.at 2 (v := .slice p.wa p.ws.length p.wc) rfl
    have x3 := H9.out.2.1.at 3 (v := .slice p.na p.ns.length p.nc) rfl
    have x4 := H9.out.2.1.at 4 (v := .slice p.va p.vs.length p.vc) rfl
    have x5 := H9.out.2.1.at 5 (v := .slice p.pa p.ps.length p.pc) rfl
    go_wp2_with fail
    go_quiet (fail)
    go_upto_region 5 with fail
    refine genQ (fun X => newer w X ∧ Whole X w.heap.size 27 (pmC p) ∧ Row intL 1 X X.heap.size AC ch) ⟨(newer_trans H9.out.1 (newer_drewN _ _)), (H9.out.2.1.below (newer_drewN _ _) H9.out.2.1.lt), ((H9.out.2.2.below (newer_drewN _ _)).more (newer_drewN _ _).size)⟩ ?_
    rintro w10 ⟨g0_, g1_, g2_⟩
    have H11 := Lib.hid (And.intro (g0_) (And.intro (g1_) (g2_)))
    clear g0_ g1_ g2_ H9 x0 x1 x2 x3 x4 x5 es ey hsn hyn c37 c42 hs0 hy0 h30 h31 h40 h41
    have x0 := H11.out.2.1.at 0 (v := vi p.years) rfl
    have x1 := H11.out.2.1.at 1 (v := vi p.slopes) rfl
    have x2 := H11.out.2.1.at 2 (v := .slice p.wa p.ws.length p.wc) rfl
    have x3 := H11.out.2.1.at 3 (v := .slice p.na p.ns.length p.nc) rfl
    have x4 := H11.out.2.1.at 4 (v := .slice p.va p.vs.length p.vc) rfl
    have x5 := H11.out.2.1.at 5 (v := .slice p.pa p.ps.length p.pc) rfl
    have HSQ : Hid ((s : Int) < q.slopes ∧ (y : Int) < q.years) := Lib.hid (by rw [HQS.out.1, HQS.out.2.1]; exact HSY.out)
    go_wp2_with fail
    refine (lawProject p w10 (HOK.out.next H11.out.1) HF.out).mono ?_
    rintro e w12 ⟨⟨p1, rfl, hj1, ho1, hpc1⟩, hb⟩
    have HJ1 := Lib.hid (And.intro hj1 hpc1)
    clear hj1 hpc1
    have H13 := Lib.hid (And.intro ((newer_trans H11.out.1 hb)) (And.intro ((H11.out.2.1.below hb H11.out.2.1.lt)) (And.intro (((H11.out.2.2.below hb).more hb.size)) (ho1))))
    clear hb ho1 H11 x0 x1 x2 x3 x4 x5
    go_wp2_with fail
    refine (list_copy HCM.out H13.out.2.2.1).mono ?_
    rintro e w14 ⟨⟨A1, c1, rfl, ho1⟩, hb⟩
    have H15 := Lib.hid (And.intro ((newer_trans H13.out.1 hb)) (And.intro ((H13.out.2.1.below hb H13.out.2.1.lt)) (And.intro (((H13.out.2.2.1.below hb).more hb.size)) (And.intro ((H13.out.2.2.2.next hb)) (ho1)))))
    clear hb ho1 H13
    obtain ⟨lo, hlo⟩ : ∃ lo, lo = togN false s y q.works ch := ⟨_, rfl⟩
    obtain ⟨hi, hhi⟩ : ∃ hi, hi = togN true s y q.works ch := ⟨_, rfl⟩
    obtain ⟨tv, htv⟩ : ∃ tv, tv = truK q.works ch hs s y p.ws.length := ⟨_, rfl⟩
    have HTV : Hid (¬ (tv < lo) ∧ ¬ (hi < tv)) := Lib.hid (by
      have h := tru_whole (ws := q.works) (plan := ch) (hs := hs) (s := s) (y := y) (fun x hx => (wdB_parts (HFO.out.ws x hx)).2.2.2.2.2) (plan_iff.1 HCP.out).1
      rw [HWL.out] at h
      rw [hlo, hhi, htv]
      omega)
    have HAD := Lib.hid (adds_of (lp := c1) (HJ1.out.1.trans HQ.out.symm) H15.out.2.2.2.1 (thin_few (by rw [HJ1.out.1, ← HQ.out]; exact HTP.out)) HCM.out HFE.out.symm HCP.out HSQ.out.1 HSQ.out.2 H15.out.2.2.2.2)
    rw [← hlo, ← hhi] at HAD
    have HTL := Lib.hid (fun (V : World) (hV : newer w V) (hr : Row intL 1 V V.heap.size AC ch) => truly_any p ch AC cC s y hs H hc V (HOK.out.next hV) HPO.out HCL.out (plan_years HFO.out HCP.out) HSY.out.1 (by omega) (by have := HSY.out.2; have := HPO.out.years; omega) HHL.out hr ((HRH.out.below hV).more hV.size))
    rw [← HQ.out, ← htv] at HTL
    clear hlo hhi htv
    go_wp2_with fail
    refine (HAD.out).mono ?_
    rintro e w16 ⟨rfl, hb⟩
    have H17 := Lib.hid (And.intro ((newer_trans H15.out.1 hb)) (And.intro ((H15.out.2.1.below hb H15.out.2.1.lt)) (((H15.out.2.2.1.below hb).more hb.size))))
    clear hb HAD HJ1 H15
    go_upto_region 6 with fail
    refine genQ (fun X => newer w X ∧ Whole X w.heap.size 27 (pmC p) ∧ Row intL 1 X X.heap.size AC ch ∧ Whole X w16.heap.size 38 #[vi lo, vi hi]) ⟨(newer_trans H17.out.1 (newer_allocH w16 (.cells #[vi lo, vi hi] 38))), (H17.out.2.1.below (newer_allocH w16 (.cells #[vi lo, vi hi] 38)) H17.out.2.1.lt), ((H17.out.2.2.below (newer_allocH w16 (.cells #[vi lo, vi hi] 38))).more (newer_allocH w16 (.cells #[vi lo, vi hi] 38)).size), Whole.made _ _ _⟩ ?_
    obtain ⟨ab, hab⟩ : ∃ ab, ab = w16.heap.size := ⟨_, rfl⟩
    have Lab := Lib.hid (show w.heap.size ≤ ab ∧ w.heap.size < ab ∧ w16.heap.size ≤ ab by rw [hab]; exact ⟨H17.out.1.size, H17.out.2.1.lt, Nat.le_refl _⟩)
    rw [← hab]
    clear hab
    rintro w18 ⟨g0_, g1_, g2_, g3_⟩
    have H19 := Lib.hid (And.intro (g0_) (And.intro (g1_) (And.intro (g2_) (g3_))))
    clear g0_ g1_ g2_ g3_ H17
    have x0 := H19.out.2.1.at 0 (v := vi p.years) rfl
    have x1 := H19.out.2.1.at 1 (v := vi p.slopes) rfl
    have x2 := H19.out.2.1.at 2 (v := .slice p.wa p.ws.length p.wc) rfl
    have x3 := H19.out.2.1.at 3 (v := .slice p.na p.ns.length p.nc) rfl
    have x4 := H19.out.2.1.at 4 (v := .slice p.va p.vs.length p.vc) rfl
    have x5 := H19.out.2.1.at 5 (v := .slice p.pa p.ps.length p.pc) rfl
    go_wp2_with fail
    refine (HTL.out _ H19.out.1 H19.out.2.2.1).mono ?_
    rintro e w20 ⟨rfl, hb⟩
    have H21 := Lib.hid (And.intro ((newer_trans H19.out.1 hb)) (And.intro ((H19.out.2.1.below hb H19.out.2.1.lt)) (And.intro (((H19.out.2.2.1.below hb).more hb.size)) ((H19.out.2.2.2.below hb H19.out.2.2.2.lt)))))
    clear hb HTL H19 x0 x1 x2 x3 x4 x5
    have a_0 := H21.out.2.2.2.at 0 (v := vi lo) rfl
    have a_1 := H21.out.2.2.2.at 1 (v := vi hi) rfl
    obtain ⟨hb1, hb2⟩ := HTV.out
    go_upto_region 9 with fail
    have HAA := Lib.hid (And.intro (Below.refl w20.heap.size w20) H21.out)
    have HAK := Lib.hid HAA.out
    go_upto_region 10 with fail
    refine genQ (fun X => newer w20 X ∧ newer w X ∧ Whole X w.heap.size 27 (pmC p) ∧ Row intL 1 X X.heap.size AC ch ∧ Whole X ab 38 #[vi lo, vi hi] ∧ Whole X w20.heap.size 25 #[.slice AC ch.length cC]) ⟨(newer_trans HAA.out.1 (newer_allocH w20 (.cells #[.slice AC ch.length cC] 25))), (newer_trans HAA.out.2.1 (newer_allocH w20 (.cells #[.slice AC ch.length cC] 25))), (HAA.out.2.2.1.below (newer_allocH w20 (.cells #[.slice AC ch.length cC] 25)) HAA.out.2.2.1.lt), ((HAA.out.2.2.2.1.below (newer_allocH w20 (.cells #[.slice AC ch.length cC] 25))).more (newer_allocH w20 (.cells #[.slice AC ch.length cC] 25)).size), (HAA.out.2.2.2.2.below (newer_allocH w20 (.cells #[.slice AC ch.length cC] 25)) HAA.out.2.2.2.2.lt), Whole.made _ _ _⟩ ?_
    obtain ⟨pb, hpb⟩ : ∃ pb, pb = w20.heap.size := ⟨_, rfl⟩
    have Lpb := Lib.hid (show w.heap.size ≤ pb ∧ w.heap.size < pb ∧ ab < pb ∧ w20.heap.size ≤ pb by rw [hpb]; exact ⟨HAA.out.2.1.size, HAA.out.2.2.1.lt, HAA.out.2.2.2.2.lt, Nat.le_refl _⟩)
    rw [← hpb]
    clear hpb a_0 a_1 hb1 hb2
    rintro w22 ⟨g0_, g1_, g2_, g3_, g4_, g5_⟩
    have H23 := Lib.hid (And.intro (g0_) (And.intro (g1_) (And.intro (g2_) (And.intro (g3_) (And.intro (g4_) (g5_))))))
    clear g0_ g1_ g2_ g3_ g4_ g5_ HAA
    have x0 := H23.out.2.2.1.at 0 (v := vi p.years) rfl
    have x1 := H23.out.2.2.1.at 1 (v := vi p.slopes) rfl
    have x2 := H23.out.2.2.1.at 2 (v := .slice p.wa p.ws.length p.wc) rfl
    have x3 := H23.out.2.2.1.at 3 (v := .slice p.na p.ns.length p.nc) rfl
    have x4 := H23.out.2.2.1.at 4 (v := .slice p.va p.vs.length p.vc) rfl
    have x5 := H23.out.2.2.1.at 5 (v := .slice p.pa p.ps.length p.pc) rfl
    obtain ⟨rd, hrd⟩ : ∃ rd, rd = readyP q := ⟨_, rfl⟩
    have HRY := Lib.hid (ready_any p w22 (HOK.out.next H23.out.2.1))
    rw [← HQ.out, ← hrd] at HRY
    have HRD := Lib.hid hrd
    clear hrd
    go_wp2_with fail
    refine (HRY.out).mono ?_
    rintro e w24 ⟨rfl, hb⟩
    have H25 := Lib.hid (And.intro ((newer_trans H23.out.1 hb)) (And.intro ((newer_trans H23.out.2.1 hb)) (And.intro ((H23.out.2.2.1.below hb H23.out.2.2.1.lt)) (And.intro (((H23.out.2.2.2.1.below hb).more hb.size)) (And.intro ((H23.out.2.2.2.2.1.below hb H23.out.2.2.2.2.1.lt)) ((H23.out.2.2.2.2.2.below hb H23.out.2.2.2.2.2.lt)))))))
    clear hb HRY H23 x0 x1 x2 x3 x4 x5
    go_upto_if 79 with fail
    go_cut [17] from 18 (fun s17 wx => ∃ (P : List Sl) (g c : Nat), s17 = .slice (some ⟨g, 0, none⟩) P.length c ∧ newer w20 wx ∧ Row slL 1 wx wx.heap.size (some ⟨g, 0, none⟩) P ∧ PlsOk q P wx)
    case first =>
      cases rd with
      | false =>
        go_wp2_with fail
        go_meet
        exact ⟨[⟨ch, AC, cC⟩], pb, 1, rfl, H25.out.1, row_of_whole (enc := slL) (s := 1) (fun _ => rfl) H25.out.2.2.2.2.2 rfl, ⟨fun z hz => by rw [List.mem_singleton] at hz; subst hz; exact H25.out.2.2.2.1, fun z hz => by rw [List.mem_singleton] at hz; subst hz; exact HCP.out, fun z hz => by simp at hz, by simp⟩⟩
      | true =>
        have x0 := H25.out.2.2.1.at 0 (v := vi p.years) rfl
        have x1 := H25.out.2.2.1.at 1 (v := vi p.slopes) rfl
        have x2 := H25.out.2.2.1.at 2 (v := .slice p.wa p.ws.length p.wc) rfl
        have x3 := H25.out.2.2.1.at 3 (v := .slice p.na p.ns.length p.nc) rfl
        have x4 := H25.out.2.2.1.at 4 (v := .slice p.va p.vs.length p.vc) rfl
        have x5 := H25.out.2.2.1.at 5 (v := .slice p.pa p.ps.length p.pc) rfl
        go_wp2_with fail
        refine (lawProject p w24 (HOK.out.next H25.out.2.1) HF.out).mono ?_
        rintro e w26 ⟨⟨p1, rfl, hj1, ho1, hpc1⟩, hb⟩
        have HJ1 := Lib.hid (And.intro hj1 hpc1)
        clear hj1 hpc1
        have H27 := Lib.hid (And.intro ((newer_trans H25.out.1 hb)) (And.intro ((newer_trans H25.out.2.1 hb)) (And.intro ((H25.out.2.2.1.below hb H25.out.2.2.1.lt)) (And.intro (((H25.out.2.2.2.1.below hb).more hb.size)) (And.intro ((H25.out.2.2.2.2.1.below hb H25.out.2.2.2.2.1.lt)) (And.intro ((H25.out.2.2.2.2.2.below hb H25.out.2.2.2.2.2.lt)) (ho1)))))))
        clear hb ho1 H25 x0 x1 x2 x3 x4 x5
        obtain ⟨E, hE⟩ : ∃ E, E = bestE q := ⟨_, rfl⟩
        have HEE := Lib.hid hE
        obtain ⟨bl, hbl⟩ : ∃ bl, bl = bestL q := ⟨_, rfl⟩
        have HBB := Lib.hid hbl
        obtain ⟨cn, hcn⟩ : ∃ cn, cn = costOf (bestR q) := ⟨_, rfl⟩
        have HBO := Lib.hid (best_own (HJ1.out.1.trans HQ.out.symm) H27.out.2.2.2.2.2.2 (thin_few (by rw [HJ1.out.1, ← HQ.out]; exact HTP.out)) HJ1.out.2)
        rw [← hbl, ← hcn, ← hE] at HBO
        clear hE hbl hcn
        go_wp2_with fail
        refine (HBO.out).mono ?_
        rintro e w28 ⟨⟨AB, cB, rfl, ho1⟩, hb⟩
        have H29 := Lib.hid (And.intro ((newer_trans H27.out.1 hb)) (And.intro ((newer_trans H27.out.2.1 hb)) (And.intro ((H27.out.2.2.1.below hb H27.out.2.2.1.lt)) (And.intro (((H27.out.2.2.2.1.below hb).more hb.size)) (And.intro ((H27.out.2.2.2.2.1.below hb H27.out.2.2.2.2.1.lt)) (And.intro ((H27.out.2.2.2.2.2.1.below hb H27.out.2.2.2.2.2.1.lt)) (ho1)))))))
        clear hb HBO HJ1 ho1 H27
        by_cases hE : E = 0
        case neg =>
          obtain rfl : E = 9 := HEE.out.trans (none_suff (l := []) HFE.out.symm (by rw [← HEE.out]; exact hE)).1
          clear hE
          go_wp2_with fail
          go_meet
          exact ⟨[⟨ch, AC, cC⟩], pb, 1, rfl, H29.out.1, row_of_whole (enc := slL) (s := 1) (fun _ => rfl) H29.out.2.2.2.2.2.1 rfl, ⟨fun z hz => by rw [List.mem_singleton] at hz; subst hz; exact H29.out.2.2.2.1, fun z hz => by rw [List.mem_singleton] at hz; subst hz; exact HCP.out, fun z hz => by simp at hz, by simp⟩⟩
        subst hE
        have HSO := Lib.hid (some_best HFE.out.symm HEE.out.symm)
        rw [← HBB.out] at HSO
        have HBM : Hid (bl.length ≤ 1000) := Lib.hid (by have h := (plan_iff.1 HSO.out.1).1; have := HFO.out.wn; omega)
        have x0 := H29.out.2.2.1.at 0 (v := vi p.years) rfl
        have x1 := H29.out.2.2.1.at 1 (v := vi p.slopes) rfl
        have x2 := H29.out.2.2.1.at 2 (v := .slice p.wa p.ws.length p.wc) rfl
        have x3 := H29.out.2.2.1.at 3 (v := .slice p.na p.ns.length p.nc) rfl
        have x4 := H29.out.2.2.1.at 4 (v := .slice p.va p.vs.length p.vc) rfl
        have x5 := H29.out.2.2.1.at 5 (v := .slice p.pa p.ps.length p.pc) rfl
        have HRO := Lib.hid (row_of_own (enc := intL) (size := 1) (by omega) (fun _ => rfl) H29.out.2.2.2.2.2.2)
        go_wp2_with fail
        refine (refIsPlan p bl AB cB _ (HOK.out.next H29.out.2.1) HBM.out HRO.out).mono ?_
        rintro e w30 ⟨rfl, hb⟩
        have H31 := Lib.hid (And.intro ((newer_trans H29.out.1 hb)) (And.intro ((newer_trans H29.out.2.1 hb)) (And.intro ((H29.out.2.2.1.below hb H29.out.2.2.1.lt)) (And.intro (((H29.out.2.2.2.1.below hb).more hb.size)) (And.intro ((H29.out.2.2.2.2.1.below hb H29.out.2.2.2.2.1.lt)) (And.intro ((H29.out.2.2.2.2.2.1.below hb H29.out.2.2.2.2.2.1.lt)) ((own_below H29.out.2.2.2.2.2.2 hb))))))))
        clear hb HRO H29 x0 x1 x2 x3 x4 x5
        rw [← HQ.out, HSO.out.1]
        obtain ⟨i25, hi0, hz0, hz1, hz2⟩ := info_parts Try.info25
        have HI25 := Lib.hid (And.intro hi0 (And.intro hz0 (And.intro hz1 hz2)))
        clear hi0 hz0 hz1 hz2
        have HO := Lib.hid (own_below (own_of_whole (base := w20.heap.size) H31.out.2.2.2.2.2.1 Lpb.out.2.2.2 (n := 1) rfl (by unfold maxLen; omega)) (newer_allocH w30 (.cells #[.slice AB bl.length cB] 25)))
        have HOB := Lib.hid (own_below H31.out.2.2.2.2.2.2 (newer_allocH w30 (.cells #[.slice AB bl.length cB] 25)))
        have HNN := Lib.hid (And.intro (newer_trans H31.out.1 (newer_allocH w30 (.cells #[.slice AB bl.length cB] 25))) (((H31.out.2.2.2.1).below (newer_allocH w30 (.cells #[.slice AB bl.length cB] 25))).more (newer_allocH w30 (.cells #[.slice AB bl.length cB] 25)).size))
        have HNW := Lib.hid (World.news_of_block (Whole.made w30 25 #[.slice AB bl.length cB]))
        have HPS := Lib.hid (show pb < w30.heap.size from H31.out.2.2.2.2.2.1.lt)
        go_wp2_with (at_builtin; go_loud ((refine wpList_append_lies _ rfl (.tmp 105) (.tmp 107) 75 rfl w20.heap.size 25 i25 (.slice none 0 0) 1 24 Try.underlying75 HI25.out.1 HI25.out.2.1 HI25.out.2.2.1 HI25.out.2.2.2 rfl (by omega) _ 1 _ rfl HO.out ⟨w30.heap.size, 0, none⟩ 1 1 [.slice AB bl.length cB] rfl rfl HNW.out (by simp [Value.oneCell']) (by omega) (by unfold maxLen; omega) (by omega) (by have := HNN.out.1.size; simpa using this) (w30.heap.size + 1) (by simp) ?_); intro gg cp2 w2 hown2 hgrow2 hat2 hlt2; have HG2 := Lib.hid (And.intro hown2 (And.intro hgrow2 (HNN.out.1.grown hgrow2 HNN.out.1.size (own_ge HO.out)))); clear hown2 hgrow2 hat2 hlt2))
        go_meet
        have hown := HG2.out.1
        have hgr := HG2.out.2.1
        have hrow : Row slL 1 w2 w2.heap.size (some ⟨gg, 0, none⟩) [⟨ch, AC, cC⟩, ⟨bl, AB, cB⟩] := row_of_own (enc := slL) (size := 1) (n := 2) (cap := cp2) (by omega) (fun _ => rfl) hown
        have hob := HOB.out.kept hgr (own_apart HOB.out HO.out (by decide))
        exact ⟨[⟨ch, AC, cC⟩, ⟨bl, AB, cB⟩], gg, cp2, rfl, HG2.out.2.2, hrow, ⟨fun z hz => by
          rcases List.mem_cons.1 hz with rfl | hz
          · exact ((HAK.out.2.2.2.1).below HG2.out.2.2).more HG2.out.2.2.size
          · rw [List.mem_singleton] at hz
            subst hz
            exact row_of_own (enc := intL) (size := 1) (by omega) (fun _ => rfl) hob, fun z hz => by
          rcases List.mem_cons.1 hz with rfl | hz
          · exact HCP.out
          · rw [List.mem_singleton] at hz
            subst hz
            exact HSO.out.1, fun z hz => by
          simp only [List.getElem?_cons_succ, List.getElem?_cons_zero, Option.some.injEq] at hz
          subst hz
          exact HSO.out.2.1, by simp⟩⟩
    case rest =>
      obtain ⟨P, g, c, rfl, hn, hrow, hpls⟩ := hcut
      have H32 := Lib.hid (And.intro (hn) (And.intro (newer_trans HAK.out.2.1 hn) (And.intro (HAK.out.2.2.1.below hn HAK.out.2.2.1.lt) (And.intro (hrow) (hpls)))))
      clear hn hrow hpls
      have HP2 : Hid (P.length ≤ 2) := Lib.hid H32.out.2.2.2.2.len
      go_wp2_with fail
      go_loopw [21] (fun s21 wr => ∃ k : Nat, k ≤ P.length ∧ s21 = .int .i64 k ∧ newer wc wr) (fun s21 _ => P.length - (intOf s21).toNat)
      case atStart => exact ⟨0, Nat.zero_le _, rfl, Below.refl _ _⟩
      case round =>
        obtain ⟨k, hk, rfl, hbw⟩ := hrel
        obtain ⟨wo, hwo⟩ : ∃ wo : World, wo = wr := ⟨_, rfl⟩
        rw [← hwo] at hbw ⊢
        clear hwo wr
        have H33 := Lib.hid (And.intro (hbw) (And.intro (newer_trans H32.out.2.1 hbw) (And.intro (H32.out.2.2.1.below hbw H32.out.2.2.1.lt) (And.intro ((H32.out.2.2.2.1.below hbw).more hbw.size) (H32.out.2.2.2.2.next hbw)))))
        clear hbw
        have hp2 := HP2.out
        by_cases hlt : k < P.length
        · have hkn : (k : Int) < P.length := by omega
          obtain ⟨z, hz⟩ := get_of_lt hlt
          have HZR := Lib.hid (H33.out.2.2.2.2.rows z (List.mem_of_getElem? hz))
          have HZP := Lib.hid (H33.out.2.2.2.2.plan z (List.mem_of_getElem? hz))
          have HZB : Hid (k = 1 → suffB q z.l = true) := Lib.hid (fun e => H33.out.2.2.2.2.best z (by rw [← e]; exact hz))
          have HZ := Lib.hid hz
          have HZL : Hid (z.l.length = p.ws.length) := Lib.hid (by rw [← HWL.out]; exact (plan_iff.1 HZP.out).1)
          have HZM : Hid (z.l.length ≤ 1000) := Lib.hid (by rw [HZL.out]; have := HPO.out.wn; omega)
          obtain ⟨sz, hsz⟩ : ∃ sz, sz = suffB q z.l := ⟨_, rfl⟩
          have HSZ := Lib.hid hsz
          rw [← hsz] at HZB
          obtain ⟨b2, o2, e2, _, cz⟩ := row_sl H33.out.2.2.2.1 hz
          simp only [Option.some.injEq, Addr.mk.injEq, and_true] at e2
          obtain ⟨rfl, rfl⟩ := e2
          rw [Nat.zero_add] at cz
          clear hz hsz
          have x0 := H33.out.2.2.1.at 0 (v := vi p.years) rfl
          have x1 := H33.out.2.2.1.at 1 (v := vi p.slopes) rfl
          have x2 := H33.out.2.2.1.at 2 (v := .slice p.wa p.ws.length p.wc) rfl
          have x3 := H33.out.2.2.1.at 3 (v := .slice p.na p.ns.length p.nc) rfl
          have x4 := H33.out.2.2.1.at 4 (v := .slice p.va p.vs.length p.vc) rfl
          have x5 := H33.out.2.2.1.at 5 (v := .slice p.pa p.ps.length p.pc) rfl
          go_upto_region 19 with fail
          refine wp_words (by kernel_rfl) (region_told 8 (by kernel_rfl) (by kernel_rfl) (fun W => Below wo.heap.size wo W) newer (pickD [vIs (pmV p), vPrj q, vIs (.slice (some ⟨g, 0, none⟩) P.length c), vIs (.int .i64 k), vIs (.pointer (some ⟨g, k, none⟩)), vIs (slV z), vLst z.l, vIs (.bool sz)]) (fun h k => newer_trans h k) (pickD_stable _ ⟨vIs_st, vPrj_st, vIs_st, vIs_st, vIs_st, vIs_st, vLst_st, vIs_st, trivial⟩) (Below.refl _ wo).drew (Below.refl _ _) ?_ ?_)
          · refine ⟨?_, ?_, ?_, ?_, ?_, ?_, ?_, ?_, trivial⟩
            · intro a W hG hR hO hp
              have h5 := hO.slot 5 (by kernel_rfl)
              have c0 := keep_cell x0 hG
              have c1 := keep_cell x1 hG
              have c2 := keep_cell x2 hG
              have c3 := keep_cell x3 hG
              have c4 := keep_cell x4 hG
              have c5 := keep_cell x5 hG
              refine wp_yields (v := pmV p) ?_ ⟨_, rfl, rfl, Below.refl _ _, hG⟩
              simp [slotOf] at h5
              simp [execOp, go_sem, h5, c0, c1, c2, c3, c4, c5]
            · intro a W hG hR hO hp
              have h115 : slotOf a 115 = pmV p := hp.1
              refine wp_enters (f := 19) (args := #[pmV p]) ?_ ((lawProject p W (HOK.out.next (newer_trans H33.out.2.1 hG)) HF.out).mono ?_)
              · simp [slotOf] at h115
                simp [go_sem, h115]
              · rintro e w' ⟨⟨p1, rfl, hj1, ho1, hpc1⟩, hb⟩
                exact ⟨_, rfl, _, rfl, ⟨p1, rfl, hj1.trans HQ.out.symm, ho1, hpc1⟩, hb, below_next hG hb⟩
            · intro a W hG hR hO hp
              have h17 := hO.slot 17 (by kernel_rfl)
              refine wp_yields (v := .slice (some ⟨g, 0, none⟩) P.length c) ?_ ⟨_, rfl, rfl, Below.refl _ _, hG⟩
              simp [slotOf] at h17
              simp [execOp, go_sem, h17]
            · intro a W hG hR hO hp
              have h21 := hO.slot 21 (by kernel_rfl)
              refine wp_yields (v := .int .i64 k) ?_ ⟨_, rfl, rfl, Below.refl _ _, hG⟩
              simp [slotOf] at h21
              simp [execOp, go_sem, h21]
            · intro a W hG hR hO hp
              have h117 : slotOf a 117 = .slice (some ⟨g, 0, none⟩) P.length c := hp.1
              have h118 : slotOf a 118 = .int .i64 k := hp.2.1
              refine wp_yields (v := .pointer (some ⟨g, k, none⟩)) ?_ ⟨_, rfl, rfl, Below.refl _ _, hG⟩
              simp [slotOf] at h117 h118
              simp [execOp, go_sem, h117, h118, hkn]
            · intro a W hG hR hO hp
              have h119 : slotOf a 119 = .pointer (some ⟨g, k, none⟩) := hp.1
              have c0 := keep_cell cz hG
              refine wp_yields (v := slV z) ?_ ⟨_, rfl, rfl, Below.refl _ _, hG⟩
              simp [slotOf] at h119
              simp [execOp, go_sem, h119, c0]
            · intro a W hG hR hO hp
              have h120 : slotOf a 120 = slV z := hp.1
              refine wp_enters (f := 21) (args := #[slV z]) ?_ ((list_copy HZM.out ((HZR.out.below hG).more hG.size)).mono ?_)
              · simp [slotOf] at h120
                simp [go_sem, h120]
              · rintro e w' ⟨⟨A1, c1, rfl, ho1⟩, hb⟩
                exact ⟨_, rfl, _, rfl, ⟨A1, c1, rfl, ho1⟩, hb, below_next hG hb⟩
            · intro a W hG hR hO hp
              have h116 := hp.1
              have h121 := hp.2.1
              obtain ⟨p1, h116, hj1, ho1, hpc1⟩ := h116
              obtain ⟨A1, c1, h121, hr1⟩ := h121
              refine wp_enters (f := 37) (args := #[pmV p1, .slice A1 z.l.length c1]) ?_ ((suffices_of hj1 ho1 (thin_few (by rw [hj1]; exact HTP.out)) HZM.out hpc1 hr1).mono ?_)
              · simp [slotOf] at h116 h121
                simp [go_sem, h116, h121]
              · rintro e w' ⟨rfl, hb⟩
                exact ⟨_, rfl, _, rfl, (by rw [HSZ.out]; rfl), hb, below_next hG hb⟩
          · intro wd hG hR
            rintro _ rfl _ ⟨p1, rfl, -, -, -⟩ _ rfl _ rfl _ rfl _ rfl _ ⟨A1, c1, rfl, -⟩ _ rfl
            change wpList _ _ _ _ _ _
            simp only [Act.put, List.setIfInBounds_toArray, List.set_cons_zero, List.set_cons_succ, List.drop_succ_cons, List.drop_zero]
            have H34 := Lib.hid (And.intro ((newer_trans H33.out.1 hG)) (And.intro ((newer_trans H33.out.2.1 hG)) (And.intro ((H33.out.2.2.1.below hG H33.out.2.2.1.lt)) (And.intro (((H33.out.2.2.2.1.below hG).more hG.size)) ((H33.out.2.2.2.2.next hG))))))
            clear hG hR cz x0 x1 x2 x3 x4 x5 H33
            cases sz with
            | false =>
              have hk1 : ((k : Int) == 1) = false := by
                rw [beq_eq_false_iff_ne]
                intro e
                have := HZB.out (by omega)
                cases this
              go_wp2_with fail
              exact ⟨⟨k + 1, by omega, by go_num, H34.out.1⟩, by (simp only [intOf]; omega)⟩
            | true =>
              have HNN := Lib.hid HPO.out.nn
              go_wp2_with fail
              go_loopw [22] (fun s22 wr => ∃ i : Nat, i ≤ p.ns.length ∧ s22 = .int .i64 i ∧ newer wd wr) (fun s22 _ => p.ns.length - (intOf s22).toNat)
              case atStart => exact ⟨0, Nat.zero_le _, rfl, Below.refl _ _⟩
              case round =>
                obtain ⟨i, hi, rfl, hbw⟩ := hrel
                obtain ⟨wi, hwi⟩ : ∃ wi : World, wi = wr := ⟨_, rfl⟩
                rw [← hwi] at hbw ⊢
                clear hwi wr
                have H35 := Lib.hid (And.intro (hbw) (And.intro (newer_trans H34.out.1 hbw) (And.intro (newer_trans H34.out.2.1 hbw) (And.intro (H34.out.2.2.1.below hbw H34.out.2.2.1.lt) (And.intro ((H34.out.2.2.2.1.below hbw).more hbw.size) (H34.out.2.2.2.2.next hbw))))))
                clear hbw
                have hnn := HNN.out
                have x3 := H35.out.2.2.2.1.at 3 (v := .slice p.na p.ns.length p.nc) rfl
                by_cases hil : i < p.ns.length
                · have hin : (i : Int) < p.ns.length := by omega
                  obtain ⟨nd, hnd⟩ := get_of_lt hil
                  obtain ⟨b3, o3, e3, _, n0, n1, n2⟩ := row3 (HOK.out.next H35.out.2.2.1).ns hnd
                  rw [e3] at x3
                  have HND := Lib.hid (HPO.out.ns nd (List.mem_of_getElem? hnd))
                  have HNM : Hid (nd ∈ q.needs) := Lib.hid (by rw [HQS.out.2.2]; exact List.mem_of_getElem? hnd)
                  clear e3 hnd
                  go_upto_region 26 with fail
                  refine genQ (fun X => newer wd X ∧ newer wc X ∧ newer w X ∧ Whole X w.heap.size 27 (pmC p) ∧ Row slL 1 X X.heap.size (some ⟨g, 0, none⟩) P ∧ PlsOk q P X ∧ Whole X wi.heap.size 60 #[vi nd.slope, vi nd.year, vi nd.due]) ⟨(newer_trans H35.out.1 (newer_allocH wi (.cells #[vi nd.slope, vi nd.year, vi nd.due] 60))), (newer_trans H35.out.2.1 (newer_allocH wi (.cells #[vi nd.slope, vi nd.year, vi nd.due] 60))), (newer_trans H35.out.2.2.1 (newer_allocH wi (.cells #[vi nd.slope, vi nd.year, vi nd.due] 60))), (H35.out.2.2.2.1.below (newer_allocH wi (.cells #[vi nd.slope, vi nd.year, vi nd.due] 60)) H35.out.2.2.2.1.lt), ((H35.out.2.2.2.2.1.below (newer_allocH wi (.cells #[vi nd.slope, vi nd.year, vi nd.due] 60))).more (newer_allocH wi (.cells #[vi nd.slope, vi nd.year, vi nd.due] 60)).size), (H35.out.2.2.2.2.2.next (newer_allocH wi (.cells #[vi nd.slope, vi nd.year, vi nd.due] 60))), Whole.made _ _ _⟩ ?_
                  obtain ⟨nb, hnb⟩ : ∃ nb, nb = wi.heap.size := ⟨_, rfl⟩
                  have Lnb := Lib.hid (show w.heap.size ≤ nb ∧ w.heap.size < nb ∧ wi.heap.size ≤ nb by rw [hnb]; exact ⟨H35.out.2.2.1.size, H35.out.2.2.2.1.lt, Nat.le_refl _⟩)
                  rw [← hnb]
                  clear hnb x3 n0 n1 n2
                  rintro w36 ⟨g0_, g1_, g2_, g3_, g4_, g5_, g6_⟩
                  have H37 := Lib.hid (And.intro (g0_) (And.intro (g1_) (And.intro (g2_) (And.intro (g3_) (And.intro (g4_) (And.intro (g5_) (g6_)))))))
                  clear g0_ g1_ g2_ g3_ g4_ g5_ g6_ H35
                  have m_0 := H37.out.2.2.2.2.2.2.at 0 (v := vi nd.slope) rfl
                  have m_1 := H37.out.2.2.2.2.2.2.at 1 (v := vi nd.year) rfl
                  have m_2 := H37.out.2.2.2.2.2.2.at 2 (v := vi nd.due) rfl
                  have x0 := H37.out.2.2.2.1.at 0 (v := vi p.years) rfl
                  have x1 := H37.out.2.2.2.1.at 1 (v := vi p.slopes) rfl
                  have x2 := H37.out.2.2.2.1.at 2 (v := .slice p.wa p.ws.length p.wc) rfl
                  have x3 := H37.out.2.2.2.1.at 3 (v := .slice p.na p.ns.length p.nc) rfl
                  have x4 := H37.out.2.2.2.1.at 4 (v := .slice p.va p.vs.length p.vc) rfl
                  have x5 := H37.out.2.2.2.1.at 5 (v := .slice p.pa p.ps.length p.pc) rfl
                  obtain ⟨b2, o2, e2, _, cz⟩ := row_sl H37.out.2.2.2.2.1 HZ.out
                  simp only [Option.some.injEq, Addr.mk.injEq, and_true] at e2
                  obtain ⟨rfl, rfl⟩ := e2
                  rw [Nat.zero_add] at cz
                  have hnb := HND.out
                  simp only [ndB, inB, Bool.and_eq_true, decide_eq_true_eq] at hnb
                  obtain ⟨tv, htv⟩ : ∃ tv, tv = truK q.works z.l hs nd.slope.toNat nd.year p.ws.length := ⟨_, rfl⟩
                  have hdue : ¬ (tv < nd.due) := by
                    have h := tru_due (hs := hs) HFO.out HSZ.out.symm HNM.out
                    rw [HWL.out] at h
                    omega
                  obtain ⟨sl, hsl⟩ : ∃ sl : Nat, nd.slope = sl := ⟨nd.slope.toNat, by omega⟩
                  rw [hsl] at htv hnb m_0
                  rw [Int.toNat_natCast] at htv
                  have HTL := Lib.hid (fun (V : World) (hV : newer w36 V) => truly_any p z.l z.a z.c sl nd.year hs H hc V (HOK.out.next (newer_trans H37.out.2.2.1 hV)) HPO.out HZL.out (plan_years HFO.out HZP.out) (by omega) (by omega) (by have := HPO.out.years; omega) HHL.out (((H37.out.2.2.2.2.2.1.rows z (List.mem_of_getElem? HZ.out)).below hV).more hV.size) ((HRH.out.below (newer_trans H37.out.2.2.1 hV)).more (newer_trans H37.out.2.2.1 hV).size))
                  rw [← HQ.out, ← htv] at HTL
                  clear hnb htv hsl
                  go_upto_region 26 with fail
                  refine wp_words (by kernel_rfl) (region_told 13 (by kernel_rfl) (by kernel_rfl) (fun W => Below w36.heap.size w36 W) newer (pickD [vIs (pmV p), vIs (.slice (some ⟨g, 0, none⟩) P.length c), vIs (.int .i64 k), vIs (.pointer (some ⟨g, k, none⟩)), vIs (slV z), vIs (.pointer (some ⟨nb, 0, none⟩)), vIs (.int .i64 sl), vIs (.pointer (some ⟨nb, 1, none⟩)), vIs (vi nd.year), vIs (.slice H hs.length hc), vIs (vi tv), vIs (.pointer (some ⟨nb, 2, none⟩)), vIs (vi nd.due)]) (fun h k => newer_trans h k) (pickD_stable _ ⟨vIs_st, vIs_st, vIs_st, vIs_st, vIs_st, vIs_st, vIs_st, vIs_st, vIs_st, vIs_st, vIs_st, vIs_st, vIs_st, trivial⟩) (Below.refl _ w36).drew (Below.refl _ _) ?_ ?_)
                  · refine ⟨?_, ?_, ?_, ?_, ?_, ?_, ?_, ?_, ?_, ?_, ?_, ?_, ?_, trivial⟩
                    · intro a W hG hR hO hp
                      have h5 := hO.slot 5 (by kernel_rfl)
                      have c0 := keep_cell x0 hG
                      have c1 := keep_cell x1 hG
                      have c2 := keep_cell x2 hG
                      have c3 := keep_cell x3 hG
                      have c4 := keep_cell x4 hG
                      have c5 := keep_cell x5 hG
                      refine wp_yields (v := pmV p) ?_ ⟨_, rfl, rfl, Below.refl _ _, hG⟩
                      simp [slotOf] at h5
                      simp [execOp, go_sem, h5, c0, c1, c2, c3, c4, c5]
                    · intro a W hG hR hO hp
                      have h17 := hO.slot 17 (by kernel_rfl)
                      refine wp_yields (v := .slice (some ⟨g, 0, none⟩) P.length c) ?_ ⟨_, rfl, rfl, Below.refl _ _, hG⟩
                      simp [slotOf] at h17
                      simp [execOp, go_sem, h17]
                    · intro a W hG hR hO hp
                      have h21 := hO.slot 21 (by kernel_rfl)
                      refine wp_yields (v := .int .i64 k) ?_ ⟨_, rfl, rfl, Below.refl _ _, hG⟩
                      simp [slotOf] at h21
                      simp [execOp, go_sem, h21]
                    · intro a W hG hR hO hp
                      have h139 : slotOf a 139 = .slice (some ⟨g, 0, none⟩) P.length c := hp.1
                      have h140 : slotOf a 140 = .int .i64 k := hp.2.1
                      refine wp_yields (v := .pointer (some ⟨g, k, none⟩)) ?_ ⟨_, rfl, rfl, Below.refl _ _, hG⟩
                      simp [slotOf] at h139 h140
                      simp [execOp, go_sem, h139, h140, hkn]
                    · intro a W hG hR hO hp
                      have h141 : slotOf a 141 = .pointer (some ⟨g, k, none⟩) := hp.1
                      have c0 := keep_cell cz hG
                      refine wp_yields (v := slV z) ?_ ⟨_, rfl, rfl, Below.refl _ _, hG⟩
                      simp [slotOf] at h141
                      simp [execOp, go_sem, h141, c0]
                    · intro a W hG hR hO hp
                      have h23 := hO.slot 23 (by kernel_rfl)
                      refine wp_yields (v := .pointer (some ⟨nb, 0, none⟩)) ?_ ⟨_, rfl, rfl, Below.refl _ _, hG⟩
                      simp [slotOf] at h23
                      simp [execOp, go_sem, h23]
                    · intro a W hG hR hO hp
                      have h143 : slotOf a 143 = .pointer (some ⟨nb, 0, none⟩) := hp.1
                      have c0 := keep_cell m_0 hG
                      refine wp_yields (v := .int .i64 sl) ?_ ⟨_, rfl, rfl, Below.refl _ _, hG⟩
                      simp [slotOf] at h143
                      simp [execOp, go_sem, h143, c0]
                    · intro a W hG hR hO hp
                      have h23 := hO.slot 23 (by kernel_rfl)
                      refine wp_yields (v := .pointer (some ⟨nb, 1, none⟩)) ?_ ⟨_, rfl, rfl, Below.refl _ _, hG⟩
                      simp [slotOf] at h23
                      simp [execOp, go_sem, h23]
                    · intro a W hG hR hO hp
                      have h145 : slotOf a 145 = .pointer (some ⟨nb, 1, none⟩) := hp.1
                      have c0 := keep_cell m_1 hG
                      refine wp_yields (v := vi nd.year) ?_ ⟨_, rfl, rfl, Below.refl _ _, hG⟩
                      simp [slotOf] at h145
                      simp [execOp, go_sem, h145, c0]
                    · intro a W hG hR hO hp
                      have h2 := hO.slot 2 (by kernel_rfl)
                      refine wp_yields (v := .slice H hs.length hc) ?_ ⟨_, rfl, rfl, Below.refl _ _, hG⟩
                      simp [slotOf] at h2
                      simp [execOp, go_sem, h2]
                    · intro a W hG hR hO hp
                      have h138 : slotOf a 138 = pmV p := hp.1
                      have h142 : slotOf a 142 = slV z := hp.2.1
                      have h144 : slotOf a 144 = .int .i64 sl := hp.2.2.1
                      have h146 : slotOf a 146 = vi nd.year := hp.2.2.2.1
                      have h147 : slotOf a 147 = .slice H hs.length hc := hp.2.2.2.2.1
                      refine wp_enters (f := 41) (args := #[pmV p, slV z, .int .i64 sl, vi nd.year, .slice H hs.length hc]) ?_ ((HTL.out W hG).mono ?_)
                      · simp [slotOf] at h138 h142 h144 h146 h147
                        simp [go_sem, h138, h142, h144, h146, h147]
                      · rintro e w' ⟨rfl, hb⟩
                        exact ⟨_, rfl, _, rfl, rfl, hb, below_next hG hb⟩
                    · intro a W hG hR hO hp
                      have h23 := hO.slot 23 (by kernel_rfl)
                      refine wp_yields (v := .pointer (some ⟨nb, 2, none⟩)) ?_ ⟨_, rfl, rfl, Below.refl _ _, hG⟩
                      simp [slotOf] at h23
                      simp [execOp, go_sem, h23]
                    · intro a W hG hR hO hp
                      have h149 : slotOf a 149 = .pointer (some ⟨nb, 2, none⟩) := hp.1
                      have c0 := keep_cell m_2 hG
                      refine wp_yields (v := vi nd.due) ?_ ⟨_, rfl, rfl, Below.refl _ _, hG⟩
                      simp [slotOf] at h149
                      simp [execOp, go_sem, h149, c0]
                  · intro wf hG hR
                    rintro _ rfl _ rfl _ rfl _ rfl _ rfl _ rfl _ rfl _ rfl _ rfl _ rfl _ rfl _ rfl _ rfl
                    change wpList _ _ _ _ _ _
                    simp only [Act.put, List.setIfInBounds_toArray, List.set_cons_zero, List.set_cons_succ, List.drop_succ_cons, List.drop_zero]
                    have H38 := Lib.hid (And.intro ((newer_trans H37.out.1 hG)) (And.intro ((newer_trans H37.out.2.1 hG)) (And.intro ((newer_trans H37.out.2.2.1 hG)) (And.intro ((H37.out.2.2.2.1.below hG H37.out.2.2.2.1.lt)) (And.intro (((H37.out.2.2.2.2.1.below hG).more hG.size)) (And.intro ((H37.out.2.2.2.2.2.1.next hG)) ((H37.out.2.2.2.2.2.2.below hG H37.out.2.2.2.2.2.2.lt))))))))
                    clear hG hR cz m_0 m_1 m_2 x0 x1 x2 x3 x4 x5 HTL H37
                    go_wp2_with fail
                    exact ⟨⟨i + 1, by omega, by go_num, H38.out.1⟩, by (simp only [intOf]; omega)⟩
                · obtain rfl : i = p.ns.length := by omega
                  have hin : ¬ ((p.ns.length : Int) < p.ns.length) := by omega
                  go_wp2_with fail
                  exact ⟨⟨k + 1, by omega, by go_num, H35.out.2.1⟩, by (simp only [intOf]; omega)⟩
        · obtain rfl : k = P.length := by omega
          have hkn : ¬ ((P.length : Int) < P.length) := by omega
          go_wp2_with (go_at_call 17; refine (wakes_any _).mono ?_; rintro e w' ⟨rfl, hwk⟩; have HWK := Lib.hid (newer_trans H33.out.2.1 hwk); clear hwk)
          go_ret
          exact ⟨rfl, HWK.out⟩
end Go.Proofs.Ytpnpnfjhjjdmgaa
