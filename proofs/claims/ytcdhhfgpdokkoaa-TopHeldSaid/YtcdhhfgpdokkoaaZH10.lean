/- TopHeld returns true: the best plan brings every slope to the factor, in every year that is asked, in each truth of its strength and water. -/
import Derived.Test.YtcdhhfgpdokkoaaZH09
namespace Go.Proofs.Ytcdhhfgpdokkoaa
section
open Go.RowKit Go.Shelf Go.Deep
set_option maxRecDepth 100000 in
set_option maxHeartbeats 8000000 in
theorem topHeld_walk (ss : List Sm) (SA : Option Addr) (sc : Nat) (p : Pm) (fac : Nat) (ws : List Byt) (wa : Option Addr) (wc : Nat) (hs : List Hlf) (HA : Option Addr) (hc : Nat) (w : World) (hss : SsOk ss SA w) (hok : PmOk p w) (hfac : fac <= 65535) (hwr : Row byL 1 w w.heap.size wa ws) (hhr : Row hwL 1 w w.heap.size HA hs) :
  Calls Try.prog 3 #[.slice SA ss.length sc, pmV p, .int .u16 (fac : Int), .slice wa ws.length wc, .slice HA hs.length hc] w fun e w' => e = .returned (.bool true) /\ newer w w' := by
 have hnw := newer_allocH w (.cells (pmC p) 28)
 have hbx := Whole.made w 28 (pmC p)
 have HOK := Lib.hid hok
 have HTH := Lib.hid (lawThinW p _ (hok.next hnw))
 have HSS := Lib.hid hss
 have HWR := Lib.hid (And.intro hwr hhr)
 have H1 := Lib.hid (And.intro hnw hbx)
 have x0 := H1.out.2.at 0 (v := vi p.years) rfl
 have x1 := H1.out.2.at 1 (v := vi p.slopes) rfl
 have x2 := H1.out.2.at 2 (v := .slice p.wa p.ws.length p.wc) rfl
 have x3 := H1.out.2.at 3 (v := .slice p.na p.ns.length p.nc) rfl
 have x4 := H1.out.2.at 4 (v := .slice p.va p.vs.length p.vc) rfl
 have x5 := H1.out.2.at 5 (v := .slice p.pa p.ps.length p.pc) rfl
 clear hnw hbx hok hss hwr hhr
 cases hth : thinP p.pj with
 | false =>
  rw [hth] at HTH
  clear hth
  go_enter Try.func3, Try.ntmps3
  go_wp2_with fail
  refine (HTH.out).mono ?_
  rintro e w2 ⟨rfl, hb⟩
  have H3 := Lib.hid (newer_trans H1.out.1 hb)
  clear hb H1 x0 x1 x2 x3 x4 x5
  go_wp2_with fail
  refine (topHolds_any _).mono ?_
  rintro e wk ⟨rfl, hb⟩
  have HK := Lib.hid (newer_trans (H3.out) hb)
  clear hb
  go_wp2_with fail
  go_ret
  exact ⟨rfl, HK.out⟩
 | true =>
  rw [hth] at HTH
  have HTP := Lib.hid hth
  have HF := Lib.hid (thin_few hth)
  clear hth
  obtain ⟨f, hf⟩ : ∃ f, f = faultN p.pj := ⟨_, rfl⟩
  have HFE := Lib.hid hf
  have hRF := fun V hV => refFault p V (HOK.out.next hV) HF.out
  rw [<- hf] at hRF
  have HRF := Lib.hid hRF
  clear hf hRF
  go_enter Try.func3, Try.ntmps3
  go_wp2_with fail
  refine (HTH.out).mono ?_
  rintro e w4 ⟨rfl, hb⟩
  have H5 := Lib.hid (And.intro (newer_trans H1.out.1 hb) (H1.out.2.below hb H1.out.2.lt))
  clear hb HTH H1 x0 x1 x2 x3 x4 x5
  have x0 := H5.out.2.at 0 (v := vi p.years) rfl
  have x1 := H5.out.2.at 1 (v := vi p.slopes) rfl
  have x2 := H5.out.2.at 2 (v := .slice p.wa p.ws.length p.wc) rfl
  have x3 := H5.out.2.at 3 (v := .slice p.na p.ns.length p.nc) rfl
  have x4 := H5.out.2.at 4 (v := .slice p.va p.vs.length p.vc) rfl
  have x5 := H5.out.2.at 5 (v := .slice p.pa p.ps.length p.pc) rfl
  go_wp2_with fail
  refine (HRF.out _ H5.out.1).mono ?_
  rintro e w6 ⟨rfl, hb⟩
  have H7 := Lib.hid (And.intro (newer_trans H5.out.1 hb) (H5.out.2.below hb H5.out.2.lt))
  clear hb HRF H5 x0 x1 x2 x3 x4 x5
  by_cases hf0 : f = 0
  case neg =>
   have b2 : (f != 0) = true := by simpa using hf0
   clear hf0
   go_wp2_with fail
   refine (topHolds_any _).mono ?_
   rintro e wk ⟨rfl, hb⟩
   have HK := Lib.hid (newer_trans (H7.out.1) hb)
   clear hb
   go_wp2_with fail
   go_ret
   exact ⟨rfl, HK.out⟩
  subst hf0
  have HPO := Lib.hid (fault_ok HFE.out.symm)
  have HFO := Lib.hid (faultOk_iff.1 HFE.out.symm)
  clear HFE
  have x0 := H7.out.2.at 0 (v := vi p.years) rfl
  have x1 := H7.out.2.at 1 (v := vi p.slopes) rfl
  have x2 := H7.out.2.at 2 (v := .slice p.wa p.ws.length p.wc) rfl
  have x3 := H7.out.2.at 3 (v := .slice p.na p.ns.length p.nc) rfl
  have x4 := H7.out.2.at 4 (v := .slice p.va p.vs.length p.vc) rfl
  have x5 := H7.out.2.at 5 (v := .slice p.pa p.ps.length p.pc) rfl
  by_cases h3 : 5 < p.ws.length
  case pos =>
   go_wp2_with fail
   refine (topHolds_any _).mono ?_
   rintro e wk ⟨rfl, hb⟩
   have HK := Lib.hid (newer_trans (H7.out.1) hb)
   clear hb
   go_wp2_with fail
   go_ret
   exact ⟨rfl, HK.out⟩
  by_cases h4 : 3 < p.years
  case pos =>
   go_wp2_with fail
   refine (topHolds_any _).mono ?_
   rintro e wk ⟨rfl, hb⟩
   have HK := Lib.hid (newer_trans (H7.out.1) hb)
   clear hb
   go_wp2_with fail
   go_ret
   exact ⟨rfl, HK.out⟩
  by_cases h5 : (ss.length : Int) < p.slopes
  case pos =>
   go_wp2_with fail
   refine (topHolds_any _).mono ?_
   rintro e wk ⟨rfl, hb⟩
   have HK := Lib.hid (newer_trans (H7.out.1) hb)
   clear hb
   go_wp2_with fail
   go_ret
   exact ⟨rfl, HK.out⟩
  by_cases h6 : 8 < ss.length
  case pos =>
   go_wp2_with fail
   refine (topHolds_any _).mono ?_
   rintro e wk ⟨rfl, hb⟩
   have HK := Lib.hid (newer_trans (H7.out.1) hb)
   clear hb
   go_wp2_with fail
   go_ret
   exact ⟨rfl, HK.out⟩
  have hsl := HPO.out.slopes
  obtain ⟨nS, hnS⟩ : ∃ n : Nat, p.slopes = n := ⟨p.slopes.toNat, by omega⟩
  have hns : 1 <= nS /\ nS <= 6 /\ nS <= ss.length /\ ss.length <= 8 := by omega
  have HNS := Lib.hid hnS
  obtain ⟨s0, hs0⟩ : ∃ s, ss[0]? = some s := ⟨_, List.getElem?_eq_getElem (by omega)⟩
  obtain ⟨sb, so, rfl, _, _⟩ := rowSl HSS.out.row hs0
  obtain ⟨f, hf⟩ : ∃ q : Int, q = ((fac % 10001 : Nat) : Int) := ⟨_, rfl⟩
  have hfb : 0 <= f /\ f <= 10000 := by have := Nat.mod_lt fac (show 0 < 10001 by decide); omega
  have ec1 : IntKind.i64.wrap (fac : Int) = fac := IntWalk.i64_in _ (by omega)
  have er1 : (fac : Int).tmod 10001 = f := by rw [hf, Int.tmod_eq_emod_of_nonneg (by omega)]; exact (Int.natCast_emod _ _).symm
  have hmk : ∀ W : World, (Instr.makeSlice 26 (.int .i64 p.slopes) (.int .i64 p.slopes)).run Try.prog W = .ok (.slice (some ⟨W.heap.size, 0, none⟩) nS nS) (W.alloc (.cells (madeCells #[vi 0] nS) 3)) := fun W => by rw [HNS.out]; exact make_in W nS (by omega)
  clear hs0 hf hnS
  go_upto_region 5 with fail
  obtain ⟨lb, hlb⟩ : ∃ q, q = w6.heap.size := ⟨_, rfl⟩
  rw [<- hlb]
  refine genQ (fun X => LacJ w6 lb nS (lkL f ss nS 0) X) ⟨newer_allocH _ _, by rw [lkL_zero, List.map_replicate, hlb]; exact made_in w6 nS (by omega)⟩ ?_
  intro w7 hl7
  have HL0 := Lib.hid hl7
  clear hl7 hlb ec1 er1 hmk x0 x1 x2 x3 x4 x5
  go_wp2_with fail
  go_loopw [13, 14, 15, 16] (fun s13 _ _ _ wr => ∃ i : Nat, i <= nS /\ s13 = vi i /\ RdyTo ss i /\ LacJ w6 lb nS (lkL f ss nS i) wr) (fun s13 _ _ _ _ => nS - (intOf s13).toNat)
  case atStart => exact ⟨0, Nat.zero_le _, rfl, fun j s hj => absurd hj (by omega), HL0.out⟩
  case round =>
   obtain ⟨i, hi, rfl, hry, hj⟩ := hrel
   have HJ := Lib.hid hj
   have HRY := Lib.hid hry
   have HNR := Lib.hid (newer_trans H7.out.1 hj.nw)
   have hbr := H7.out.2.below hj.nw H7.out.2.lt
   have HBR := Lib.hid hbr
   have x0 := hbr.at 0 (v := vi p.years) rfl
   have x1 := hbr.at 1 (v := vi p.slopes) rfl
   have x2 := hbr.at 2 (v := .slice p.wa p.ws.length p.wc) rfl
   have x3 := hbr.at 3 (v := .slice p.na p.ns.length p.nc) rfl
   have x4 := hbr.at 4 (v := .slice p.va p.vs.length p.vc) rfl
   have x5 := hbr.at 5 (v := .slice p.pa p.ps.length p.pc) rfl
   by_cases hlt : i < nS
   case pos =>
    have hin : (i : Int) < p.slopes := by have := HNS.out; omega
    have his : (i : Int) < ss.length := by omega
    obtain ⟨s, hs⟩ : ∃ s, ss[i]? = some s := ⟨_, List.getElem?_eq_getElem (by omega)⟩
    have hsi := HSS.out.next HNR.out
    obtain ⟨sb', so', es, _, s0, s1⟩ := rowSl hsi.row hs
    injection es with es
    injection es with es1 es2
    subst es1
    subst es2
    have hso := hsi.at_ s (List.mem_of_getElem? hs)
    have HSO := Lib.hid hso
    have HSI := Lib.hid hs
    have HTN0 := Lib.hid (fun W (hW : newer wr W) => lawThin s W (hso.next hW))
    clear hry hj hbr hsi hso hs
    go_upto_region 8 with fail
    cases hth : thinS s.sd with
    | false =>
     have HTN : Hid (∀ W, newer wr W -> Calls Try.prog 7 #[smV s] W fun e w' => e = .returned (.bool false) /\ newer W w') := Lib.hid (fun W hW => by have h := HTN0.out W hW; rw [hth] at h; exact h)
     clear hth HTN0
     refine wp_words (by kernel_rfl) (region_told_u 27 (by kernel_rfl) (by kernel_rfl) [false, false, false, false, false, false, false, true, true, true, true, true, true, false, false, true, true, true, true, true, true, true, true, true, true, true, true] (fun W => Below wr.heap.size wr W) newer [vIs (.slice (some ⟨sb, so, none⟩) ss.length sc), vIs (.int .i64 i), vIs (.pointer (some ⟨sb, so + i * 2, none⟩)), vIs (smV s), vIs (.bool false), vIs (.bool true), vIs (.bool true), vIs (undef), vIs (undef), vIs (undef), vIs (undef), vIs (undef), vIs (undef), vIs (.bool true), vIs (.bool true), vIs (undef), vIs (undef), vIs (undef), vIs (undef), vIs (undef), vIs (undef), vIs (undef), vIs (undef), vIs (undef), vIs (undef), vIs (undef), vIs (undef)] (by repeat' first | refine And.intro ?_ ?_ | exact trivial | exact rfl | (intro v W h; obtain rfl : v = _ := h; first | rfl | (simp; done) | (simp [undef]; done))) (by repeat' first | refine And.intro ?_ ?_ | exact trivial | exact (fun h => Bool.noConfusion (show false = true from h)) | exact (fun _ _ => rfl)) (fun h k => newer_trans h k) (pickD_stable _ (by repeat' first | refine And.intro ?_ ?_ | exact trivial | exact vIs_st)) (Below.refl _ wr).drew (Below.refl _ _) ?_ ?_)
     ·refine ⟨.inr ?_, .inr ?_, .inr ?_, .inr ?_, .inr ?_, .inr ?_, .inr ?_, .inl rfl, .inl rfl, .inl rfl, .inl rfl, .inl rfl, .inl rfl, .inr ?_, .inr ?_, .inl rfl, .inl rfl, .inl rfl, .inl rfl, .inl rfl, .inl rfl, .inl rfl, .inl rfl, .inl rfl, .inl rfl, .inl rfl, .inl rfl, trivial⟩
      ·exact fun a W hG _ hO _ => kM 0 rfl (hO.slot 0 (by kernel_rfl)) rfl hG
      ·exact fun a W hG _ hO _ => kM 13 rfl (hO.slot 13 (by kernel_rfl)) rfl hG
      ·intro a W hG hR hO hp; have h75 : slotOf a 75 = .slice (some ⟨sb, so, none⟩) ss.length sc := hp.1; have h76 : slotOf a 76 = .int .i64 i := hp.2.1; refine kY (v := .pointer (some ⟨sb, so + i * 2, none⟩)) hG rfl ?_; simp [slotOf] at h75 h76; simp [execOp, go_sem, h75, h76, his]
      ·intro a W hG hR hO hp; have h77 : slotOf a 77 = .pointer (some ⟨sb, so + i * 2, none⟩) := hp.1; have c0 := keep_cell s0 hG; have c1 := keep_cell s1 hG; refine kY (v := smV s) hG rfl ?_; simp [slotOf] at h77; simp [execOp, go_sem, h77, c0, c1]
      ·intro a W hG hR hO hp
       have h78 : slotOf a 78 = smV s := hp.1
       refine wp_enters (f := 7) (args := #[smV s]) ?_ ((HTN.out W hG).mono ?_)
       ·simp [slotOf] at h78
        simp [go_sem, h78]
       ·rintro e w' ⟨rfl, hb⟩
        exact ⟨_, rfl, _, rfl, rfl, hb, below_next hG hb⟩
      ·intro a W hG hR hO hp; have h79 : slotOf a 79 = .bool false := hp.1; refine kY (v := .bool true) hG rfl ?_; simp [slotOf] at h79; simp [execOp, go_sem, h79]
      ·exact fun a W hG _ _ hp => kM 80 rfl hp.1 rfl hG
      ·intro a W hG hR hO hp; have h81 : slotOf a 81 = .bool true := hp.1; have h87 : slotOf a 87 = undef := hp.2.1; refine kY (v := .bool true) hG rfl ?_; simp [slotOf] at h81 h87; simp [execOp, go_sem, h81, h87]
      ·exact fun a W hG _ _ hp => kM 88 rfl hp.1 rfl hG
     ·intro w9 hG hR
      rintro _ rfl _ rfl _ rfl _ rfl _ rfl _ rfl _ rfl _ rfl _ rfl _ rfl _ rfl _ rfl _ rfl _ rfl _ rfl _ rfl _ rfl _ rfl _ rfl _ rfl _ rfl _ rfl _ rfl _ rfl _ rfl _ rfl _ rfl
      change wpList _ _ _ _ _ _
      simp only [Act.put, List.setIfInBounds_toArray, List.set_cons_zero, List.set_cons_succ, List.drop_succ_cons, List.drop_zero]
      have HN9 := Lib.hid (newer_trans HNR.out hG)
      clear hG hR s0 s1 x0 x1 x2 x3 x4 x5
      go_wp2_with fail
      refine (topHolds_any _).mono ?_
      rintro e wk ⟨rfl, hb⟩
      have HK := Lib.hid (newer_trans (HN9.out) hb)
      clear hb
      go_wp2_with fail
      go_ret
      exact ⟨rfl, HK.out⟩
    | true =>
     have HTN : Hid (∀ W, newer wr W -> Calls Try.prog 7 #[smV s] W fun e w' => e = .returned (.bool true) /\ newer W w') := Lib.hid (fun W hW => by have h := HTN0.out W hW; rw [hth] at h; exact h)
     have few := (thinS_few hth).1
     have HRG0 := Lib.hid (fun W (hW : newer wr W) => right_any s W (HSO.out.next hW) few)
     clear hth HTN0 few
     cases hri : slopeB s.sd with
     | false =>
      have HRG : Hid (∀ W, newer wr W -> Calls Try.prog 8 #[smV s] W fun e w' => e = .returned (.bool false) /\ newer W w') := Lib.hid (fun W hW => by have h := HRG0.out W hW; rw [hri] at h; exact h)
      clear hri HRG0
      refine wp_words (by kernel_rfl) (region_told_u 27 (by kernel_rfl) (by kernel_rfl) [false, false, false, false, false, false, false, false, false, false, false, false, false, false, false, true, true, true, true, true, true, true, true, true, true, true, true] (fun W => Below wr.heap.size wr W) newer [vIs (.slice (some ⟨sb, so, none⟩) ss.length sc), vIs (.int .i64 i), vIs (.pointer (some ⟨sb, so + i * 2, none⟩)), vIs (smV s), vIs (.bool true), vIs (.bool false), vIs (.bool false), vIs (.slice (some ⟨sb, so, none⟩) ss.length sc), vIs (.int .i64 i), vIs (.pointer (some ⟨sb, so + i * 2, none⟩)), vIs (smV s), vIs (.bool false), vIs (.bool true), vIs (.bool true), vIs (.bool true), vIs (undef), vIs (undef), vIs (undef), vIs (undef), vIs (undef), vIs (undef), vIs (undef), vIs (undef), vIs (undef), vIs (undef), vIs (undef), vIs (undef)] (by repeat' first | refine And.intro ?_ ?_ | exact trivial | exact rfl | (intro v W h; obtain rfl : v = _ := h; first | rfl | (simp; done) | (simp [undef]; done))) (by repeat' first | refine And.intro ?_ ?_ | exact trivial | exact (fun h => Bool.noConfusion (show false = true from h)) | exact (fun _ _ => rfl)) (fun h k => newer_trans h k) (pickD_stable _ (by repeat' first | refine And.intro ?_ ?_ | exact trivial | exact vIs_st)) (Below.refl _ wr).drew (Below.refl _ _) ?_ ?_)
      ·refine ⟨.inr ?_, .inr ?_, .inr ?_, .inr ?_, .inr ?_, .inr ?_, .inr ?_, .inr ?_, .inr ?_, .inr ?_, .inr ?_, .inr ?_, .inr ?_, .inr ?_, .inr ?_, .inl rfl, .inl rfl, .inl rfl, .inl rfl, .inl rfl, .inl rfl, .inl rfl, .inl rfl, .inl rfl, .inl rfl, .inl rfl, .inl rfl, trivial⟩
       ·exact fun a W hG _ hO _ => kM 0 rfl (hO.slot 0 (by kernel_rfl)) rfl hG
       ·exact fun a W hG _ hO _ => kM 13 rfl (hO.slot 13 (by kernel_rfl)) rfl hG
       ·intro a W hG hR hO hp; have h75 : slotOf a 75 = .slice (some ⟨sb, so, none⟩) ss.length sc := hp.1; have h76 : slotOf a 76 = .int .i64 i := hp.2.1; refine kY (v := .pointer (some ⟨sb, so + i * 2, none⟩)) hG rfl ?_; simp [slotOf] at h75 h76; simp [execOp, go_sem, h75, h76, his]
       ·intro a W hG hR hO hp; have h77 : slotOf a 77 = .pointer (some ⟨sb, so + i * 2, none⟩) := hp.1; have c0 := keep_cell s0 hG; have c1 := keep_cell s1 hG; refine kY (v := smV s) hG rfl ?_; simp [slotOf] at h77; simp [execOp, go_sem, h77, c0, c1]
       ·intro a W hG hR hO hp
        have h78 : slotOf a 78 = smV s := hp.1
        refine wp_enters (f := 7) (args := #[smV s]) ?_ ((HTN.out W hG).mono ?_)
        ·simp [slotOf] at h78
         simp [go_sem, h78]
        ·rintro e w' ⟨rfl, hb⟩
         exact ⟨_, rfl, _, rfl, rfl, hb, below_next hG hb⟩
       ·intro a W hG hR hO hp; have h79 : slotOf a 79 = .bool true := hp.1; refine kY (v := .bool false) hG rfl ?_; simp [slotOf] at h79; simp [execOp, go_sem, h79]
       ·exact fun a W hG _ _ hp => kM 80 rfl hp.1 rfl hG
       ·exact fun a W hG _ hO _ => kM 0 rfl (hO.slot 0 (by kernel_rfl)) rfl hG
       ·exact fun a W hG _ hO _ => kM 13 rfl (hO.slot 13 (by kernel_rfl)) rfl hG
       ·intro a W hG hR hO hp; have h82 : slotOf a 82 = .slice (some ⟨sb, so, none⟩) ss.length sc := hp.1; have h83 : slotOf a 83 = .int .i64 i := hp.2.1; refine kY (v := .pointer (some ⟨sb, so + i * 2, none⟩)) hG rfl ?_; simp [slotOf] at h82 h83; simp [execOp, go_sem, h82, h83, his]
       ·intro a W hG hR hO hp; have h84 : slotOf a 84 = .pointer (some ⟨sb, so + i * 2, none⟩) := hp.1; have c0 := keep_cell s0 hG; have c1 := keep_cell s1 hG; refine kY (v := smV s) hG rfl ?_; simp [slotOf] at h84; simp [execOp, go_sem, h84, c0, c1]
       ·intro a W hG hR hO hp
        have h85 : slotOf a 85 = smV s := hp.1
        refine wp_enters (f := 8) (args := #[smV s]) ?_ ((HRG.out W hG).mono ?_)
        ·simp [slotOf] at h85
         simp [go_sem, h85]
        ·rintro e w' ⟨rfl, hb⟩
         exact ⟨_, rfl, _, rfl, rfl, hb, below_next hG hb⟩
       ·intro a W hG hR hO hp; have h86 : slotOf a 86 = .bool false := hp.1; refine kY (v := .bool true) hG rfl ?_; simp [slotOf] at h86; simp [execOp, go_sem, h86]
       ·intro a W hG hR hO hp; have h81 : slotOf a 81 = .bool false := hp.1; have h87 : slotOf a 87 = .bool true := hp.2.1; refine kY (v := .bool true) hG rfl ?_; simp [slotOf] at h81 h87; simp [execOp, go_sem, h81, h87]
       ·exact fun a W hG _ _ hp => kM 88 rfl hp.1 rfl hG
      ·intro w9 hG hR
       rintro _ rfl _ rfl _ rfl _ rfl _ rfl _ rfl _ rfl _ rfl _ rfl _ rfl _ rfl _ rfl _ rfl _ rfl _ rfl _ rfl _ rfl _ rfl _ rfl _ rfl _ rfl _ rfl _ rfl _ rfl _ rfl _ rfl _ rfl
       change wpList _ _ _ _ _ _
       simp only [Act.put, List.setIfInBounds_toArray, List.set_cons_zero, List.set_cons_succ, List.drop_succ_cons, List.drop_zero]
       have HN9 := Lib.hid (newer_trans HNR.out hG)
       clear hG hR s0 s1 x0 x1 x2 x3 x4 x5
       go_wp2_with fail
       refine (topHolds_any _).mono ?_
       rintro e wk ⟨rfl, hb⟩
       have HK := Lib.hid (newer_trans (HN9.out) hb)
       clear hb
       go_wp2_with fail
       go_ret
       exact ⟨rfl, HK.out⟩
     | true =>
      have HRG : Hid (∀ W, newer wr W -> Calls Try.prog 8 #[smV s] W fun e w' => e = .returned (.bool true) /\ newer W w') := Lib.hid (fun W hW => by have h := HRG0.out W hW; rw [hri] at h; exact h)
      have HSD := Lib.hid (sdOk_iff.1 hri)
      clear hri HRG0
      by_cases hlc : (s.cs.length : Int) < s.least
      case pos =>
       refine wp_words (by kernel_rfl) (region_told_u 27 (by kernel_rfl) (by kernel_rfl) [false, false, false, false, false, false, false, false, false, false, false, false, false, false, false, false, false, false, false, false, false, false, false, false, false, false, false] (fun W => Below wr.heap.size wr W) newer [vIs (.slice (some ⟨sb, so, none⟩) ss.length sc), vIs (.int .i64 i), vIs (.pointer (some ⟨sb, so + i * 2, none⟩)), vIs (smV s), vIs (.bool true), vIs (.bool false), vIs (.bool false), vIs (.slice (some ⟨sb, so, none⟩) ss.length sc), vIs (.int .i64 i), vIs (.pointer (some ⟨sb, so + i * 2, none⟩)), vIs (smV s), vIs (.bool true), vIs (.bool false), vIs (.bool false), vIs (.bool false), vIs (.slice (some ⟨sb, so, none⟩) ss.length sc), vIs (.int .i64 i), vIs (.pointer (some ⟨sb, so + i * 2, none⟩)), vIs (.pointer (some ⟨sb, so + i * 2 + 1, none⟩)), vIs (vi s.least), vIs (.slice (some ⟨sb, so, none⟩) ss.length sc), vIs (.int .i64 i), vIs (.pointer (some ⟨sb, so + i * 2, none⟩)), vIs (.pointer (some ⟨sb, so + i * 2, none⟩)), vIs (.slice s.a s.cs.length s.c), vIs (.int .i64 s.cs.length), vIs (.bool true)] (by repeat' first | refine And.intro ?_ ?_ | exact trivial | exact rfl | (intro v W h; obtain rfl : v = _ := h; first | rfl | (simp; done) | (simp [undef]; done))) (by repeat' first | refine And.intro ?_ ?_ | exact trivial | exact (fun h => Bool.noConfusion (show false = true from h)) | exact (fun _ _ => rfl)) (fun h k => newer_trans h k) (pickD_stable _ (by repeat' first | refine And.intro ?_ ?_ | exact trivial | exact vIs_st)) (Below.refl _ wr).drew (Below.refl _ _) ?_ ?_)
       ·refine ⟨.inr ?_, .inr ?_, .inr ?_, .inr ?_, .inr ?_, .inr ?_, .inr ?_, .inr ?_, .inr ?_, .inr ?_, .inr ?_, .inr ?_, .inr ?_, .inr ?_, .inr ?_, .inr ?_, .inr ?_, .inr ?_, .inr ?_, .inr ?_, .inr ?_, .inr ?_, .inr ?_, .inr ?_, .inr ?_, .inr ?_, .inr ?_, trivial⟩
        ·exact fun a W hG _ hO _ => kM 0 rfl (hO.slot 0 (by kernel_rfl)) rfl hG
        ·exact fun a W hG _ hO _ => kM 13 rfl (hO.slot 13 (by kernel_rfl)) rfl hG
        ·intro a W hG hR hO hp; have h75 : slotOf a 75 = .slice (some ⟨sb, so, none⟩) ss.length sc := hp.1; have h76 : slotOf a 76 = .int .i64 i := hp.2.1; refine kY (v := .pointer (some ⟨sb, so + i * 2, none⟩)) hG rfl ?_; simp [slotOf] at h75 h76; simp [execOp, go_sem, h75, h76, his]
        ·intro a W hG hR hO hp; have h77 : slotOf a 77 = .pointer (some ⟨sb, so + i * 2, none⟩) := hp.1; have c0 := keep_cell s0 hG; have c1 := keep_cell s1 hG; refine kY (v := smV s) hG rfl ?_; simp [slotOf] at h77; simp [execOp, go_sem, h77, c0, c1]
        ·intro a W hG hR hO hp
         have h78 : slotOf a 78 = smV s := hp.1
         refine wp_enters (f := 7) (args := #[smV s]) ?_ ((HTN.out W hG).mono ?_)
         ·simp [slotOf] at h78
          simp [go_sem, h78]
         ·rintro e w' ⟨rfl, hb⟩
          exact ⟨_, rfl, _, rfl, rfl, hb, below_next hG hb⟩
        ·intro a W hG hR hO hp; have h79 : slotOf a 79 = .bool true := hp.1; refine kY (v := .bool false) hG rfl ?_; simp [slotOf] at h79; simp [execOp, go_sem, h79]
        ·exact fun a W hG _ _ hp => kM 80 rfl hp.1 rfl hG
        ·exact fun a W hG _ hO _ => kM 0 rfl (hO.slot 0 (by kernel_rfl)) rfl hG
        ·exact fun a W hG _ hO _ => kM 13 rfl (hO.slot 13 (by kernel_rfl)) rfl hG
        ·intro a W hG hR hO hp; have h82 : slotOf a 82 = .slice (some ⟨sb, so, none⟩) ss.length sc := hp.1; have h83 : slotOf a 83 = .int .i64 i := hp.2.1; refine kY (v := .pointer (some ⟨sb, so + i * 2, none⟩)) hG rfl ?_; simp [slotOf] at h82 h83; simp [execOp, go_sem, h82, h83, his]
        ·intro a W hG hR hO hp; have h84 : slotOf a 84 = .pointer (some ⟨sb, so + i * 2, none⟩) := hp.1; have c0 := keep_cell s0 hG; have c1 := keep_cell s1 hG; refine kY (v := smV s) hG rfl ?_; simp [slotOf] at h84; simp [execOp, go_sem, h84, c0, c1]
        ·intro a W hG hR hO hp
         have h85 : slotOf a 85 = smV s := hp.1
         refine wp_enters (f := 8) (args := #[smV s]) ?_ ((HRG.out W hG).mono ?_)
         ·simp [slotOf] at h85
          simp [go_sem, h85]
         ·rintro e w' ⟨rfl, hb⟩
          exact ⟨_, rfl, _, rfl, rfl, hb, below_next hG hb⟩
        ·intro a W hG hR hO hp; have h86 : slotOf a 86 = .bool true := hp.1; refine kY (v := .bool false) hG rfl ?_; simp [slotOf] at h86; simp [execOp, go_sem, h86]
        ·intro a W hG hR hO hp; have h81 : slotOf a 81 = .bool false := hp.1; have h87 : slotOf a 87 = .bool false := hp.2.1; refine kY (v := .bool false) hG rfl ?_; simp [slotOf] at h81 h87; simp [execOp, go_sem, h81, h87]
        ·exact fun a W hG _ _ hp => kM 88 rfl hp.1 rfl hG
        ·exact fun a W hG _ hO _ => kM 0 rfl (hO.slot 0 (by kernel_rfl)) rfl hG
        ·exact fun a W hG _ hO _ => kM 13 rfl (hO.slot 13 (by kernel_rfl)) rfl hG
        ·intro a W hG hR hO hp; have h90 : slotOf a 90 = .slice (some ⟨sb, so, none⟩) ss.length sc := hp.1; have h91 : slotOf a 91 = .int .i64 i := hp.2.1; refine kY (v := .pointer (some ⟨sb, so + i * 2, none⟩)) hG rfl ?_; simp [slotOf] at h90 h91; simp [execOp, go_sem, h90, h91, his]
        ·intro a W hG hR hO hp; have h92 : slotOf a 92 = .pointer (some ⟨sb, so + i * 2, none⟩) := hp.1; refine kY (v := .pointer (some ⟨sb, so + i * 2 + 1, none⟩)) hG rfl ?_; simp [slotOf] at h92; simp [execOp, go_sem, h92]
        ·intro a W hG hR hO hp; have h93 : slotOf a 93 = .pointer (some ⟨sb, so + i * 2 + 1, none⟩) := hp.1; have c0 := keep_cell s1 hG; refine kY (v := vi s.least) hG rfl ?_; simp [slotOf] at h93; simp [execOp, go_sem, h93, c0]
        ·exact fun a W hG _ hO _ => kM 0 rfl (hO.slot 0 (by kernel_rfl)) rfl hG
        ·exact fun a W hG _ hO _ => kM 13 rfl (hO.slot 13 (by kernel_rfl)) rfl hG
        ·intro a W hG hR hO hp; have h95 : slotOf a 95 = .slice (some ⟨sb, so, none⟩) ss.length sc := hp.1; have h96 : slotOf a 96 = .int .i64 i := hp.2.1; refine kY (v := .pointer (some ⟨sb, so + i * 2, none⟩)) hG rfl ?_; simp [slotOf] at h95 h96; simp [execOp, go_sem, h95, h96, his]
        ·intro a W hG hR hO hp; have h97 : slotOf a 97 = .pointer (some ⟨sb, so + i * 2, none⟩) := hp.1; refine kY (v := .pointer (some ⟨sb, so + i * 2, none⟩)) hG rfl ?_; simp [slotOf] at h97; simp [execOp, go_sem, h97]
        ·intro a W hG hR hO hp; have h98 : slotOf a 98 = .pointer (some ⟨sb, so + i * 2, none⟩) := hp.1; have c0 := keep_cell s0 hG; refine kY (v := .slice s.a s.cs.length s.c) hG rfl ?_; simp [slotOf] at h98; simp [execOp, go_sem, h98, c0]
        ·intro a W hG hR hO hp; have h99 : slotOf a 99 = .slice s.a s.cs.length s.c := hp.1; refine kY (v := .int .i64 s.cs.length) hG rfl ?_; simp [slotOf] at h99; simp [go_sem, h99]
        ·intro a W hG hR hO hp; have h94 : slotOf a 94 = vi s.least := hp.1; have h100 : slotOf a 100 = .int .i64 s.cs.length := hp.2.1; refine kY (v := .bool true) hG rfl ?_; simp [slotOf] at h94 h100; simp [execOp, go_sem, h94, h100, hlc]
       ·intro w9 hG hR
        rintro _ rfl _ rfl _ rfl _ rfl _ rfl _ rfl _ rfl _ rfl _ rfl _ rfl _ rfl _ rfl _ rfl _ rfl _ rfl _ rfl _ rfl _ rfl _ rfl _ rfl _ rfl _ rfl _ rfl _ rfl _ rfl _ rfl _ rfl
        change wpList _ _ _ _ _ _
        simp only [Act.put, List.setIfInBounds_toArray, List.set_cons_zero, List.set_cons_succ, List.drop_succ_cons, List.drop_zero]
        have HN9 := Lib.hid (newer_trans HNR.out hG)
        clear hG hR s0 s1 x0 x1 x2 x3 x4 x5 hlc
        go_wp2_with fail
        refine (topHolds_any _).mono ?_
        rintro e wk ⟨rfl, hb⟩
        have HK := Lib.hid (newer_trans (HN9.out) hb)
        clear hb
        go_wp2_with fail
        go_ret
        exact ⟨rfl, HK.out⟩
      case neg =>
       refine wp_words (by kernel_rfl) (region_told_u 27 (by kernel_rfl) (by kernel_rfl) [false, false, false, false, false, false, false, false, false, false, false, false, false, false, false, false, false, false, false, false, false, false, false, false, false, false, false] (fun W => Below wr.heap.size wr W) newer [vIs (.slice (some ⟨sb, so, none⟩) ss.length sc), vIs (.int .i64 i), vIs (.pointer (some ⟨sb, so + i * 2, none⟩)), vIs (smV s), vIs (.bool true), vIs (.bool false), vIs (.bool false), vIs (.slice (some ⟨sb, so, none⟩) ss.length sc), vIs (.int .i64 i), vIs (.pointer (some ⟨sb, so + i * 2, none⟩)), vIs (smV s), vIs (.bool true), vIs (.bool false), vIs (.bool false), vIs (.bool false), vIs (.slice (some ⟨sb, so, none⟩) ss.length sc), vIs (.int .i64 i), vIs (.pointer (some ⟨sb, so + i * 2, none⟩)), vIs (.pointer (some ⟨sb, so + i * 2 + 1, none⟩)), vIs (vi s.least), vIs (.slice (some ⟨sb, so, none⟩) ss.length sc), vIs (.int .i64 i), vIs (.pointer (some ⟨sb, so + i * 2, none⟩)), vIs (.pointer (some ⟨sb, so + i * 2, none⟩)), vIs (.slice s.a s.cs.length s.c), vIs (.int .i64 s.cs.length), vIs (.bool false)] (by repeat' first | refine And.intro ?_ ?_ | exact trivial | exact rfl | (intro v W h; obtain rfl : v = _ := h; first | rfl | (simp; done) | (simp [undef]; done))) (by repeat' first | refine And.intro ?_ ?_ | exact trivial | exact (fun h => Bool.noConfusion (show false = true from h)) | exact (fun _ _ => rfl)) (fun h k => newer_trans h k) (pickD_stable _ (by repeat' first | refine And.intro ?_ ?_ | exact trivial | exact vIs_st)) (Below.refl _ wr).drew (Below.refl _ _) ?_ ?_)
       ·refine ⟨.inr ?_, .inr ?_, .inr ?_, .inr ?_, .inr ?_, .inr ?_, .inr ?_, .inr ?_, .inr ?_, .inr ?_, .inr ?_, .inr ?_, .inr ?_, .inr ?_, .inr ?_, .inr ?_, .inr ?_, .inr ?_, .inr ?_, .inr ?_, .inr ?_, .inr ?_, .inr ?_, .inr ?_, .inr ?_, .inr ?_, .inr ?_, trivial⟩
        ·exact fun a W hG _ hO _ => kM 0 rfl (hO.slot 0 (by kernel_rfl)) rfl hG
        ·exact fun a W hG _ hO _ => kM 13 rfl (hO.slot 13 (by kernel_rfl)) rfl hG
        ·intro a W hG hR hO hp; have h75 : slotOf a 75 = .slice (some ⟨sb, so, none⟩) ss.length sc := hp.1; have h76 : slotOf a 76 = .int .i64 i := hp.2.1; refine kY (v := .pointer (some ⟨sb, so + i * 2, none⟩)) hG rfl ?_; simp [slotOf] at h75 h76; simp [execOp, go_sem, h75, h76, his]
        ·intro a W hG hR hO hp; have h77 : slotOf a 77 = .pointer (some ⟨sb, so + i * 2, none⟩) := hp.1; have c0 := keep_cell s0 hG; have c1 := keep_cell s1 hG; refine kY (v := smV s) hG rfl ?_; simp [slotOf] at h77; simp [execOp, go_sem, h77, c0, c1]
        ·intro a W hG hR hO hp
         have h78 : slotOf a 78 = smV s := hp.1
         refine wp_enters (f := 7) (args := #[smV s]) ?_ ((HTN.out W hG).mono ?_)
         ·simp [slotOf] at h78
          simp [go_sem, h78]
         ·rintro e w' ⟨rfl, hb⟩
          exact ⟨_, rfl, _, rfl, rfl, hb, below_next hG hb⟩
        ·intro a W hG hR hO hp; have h79 : slotOf a 79 = .bool true := hp.1; refine kY (v := .bool false) hG rfl ?_; simp [slotOf] at h79; simp [execOp, go_sem, h79]
        ·exact fun a W hG _ _ hp => kM 80 rfl hp.1 rfl hG
        ·exact fun a W hG _ hO _ => kM 0 rfl (hO.slot 0 (by kernel_rfl)) rfl hG
        ·exact fun a W hG _ hO _ => kM 13 rfl (hO.slot 13 (by kernel_rfl)) rfl hG
        ·intro a W hG hR hO hp; have h82 : slotOf a 82 = .slice (some ⟨sb, so, none⟩) ss.length sc := hp.1; have h83 : slotOf a 83 = .int .i64 i := hp.2.1; refine kY (v := .pointer (some ⟨sb, so + i * 2, none⟩)) hG rfl ?_; simp [slotOf] at h82 h83; simp [execOp, go_sem, h82, h83, his]
        ·intro a W hG hR hO hp; have h84 : slotOf a 84 = .pointer (some ⟨sb, so + i * 2, none⟩) := hp.1; have c0 := keep_cell s0 hG; have c1 := keep_cell s1 hG; refine kY (v := smV s) hG rfl ?_; simp [slotOf] at h84; simp [execOp, go_sem, h84, c0, c1]
        ·intro a W hG hR hO hp
         have h85 : slotOf a 85 = smV s := hp.1
         refine wp_enters (f := 8) (args := #[smV s]) ?_ ((HRG.out W hG).mono ?_)
         ·simp [slotOf] at h85
          simp [go_sem, h85]
         ·rintro e w' ⟨rfl, hb⟩
          exact ⟨_, rfl, _, rfl, rfl, hb, below_next hG hb⟩
        ·intro a W hG hR hO hp; have h86 : slotOf a 86 = .bool true := hp.1; refine kY (v := .bool false) hG rfl ?_; simp [slotOf] at h86; simp [execOp, go_sem, h86]
        ·intro a W hG hR hO hp; have h81 : slotOf a 81 = .bool false := hp.1; have h87 : slotOf a 87 = .bool false := hp.2.1; refine kY (v := .bool false) hG rfl ?_; simp [slotOf] at h81 h87; simp [execOp, go_sem, h81, h87]
        ·exact fun a W hG _ _ hp => kM 88 rfl hp.1 rfl hG
        ·exact fun a W hG _ hO _ => kM 0 rfl (hO.slot 0 (by kernel_rfl)) rfl hG
        ·exact fun a W hG _ hO _ => kM 13 rfl (hO.slot 13 (by kernel_rfl)) rfl hG
        ·intro a W hG hR hO hp; have h90 : slotOf a 90 = .slice (some ⟨sb, so, none⟩) ss.length sc := hp.1; have h91 : slotOf a 91 = .int .i64 i := hp.2.1; refine kY (v := .pointer (some ⟨sb, so + i * 2, none⟩)) hG rfl ?_; simp [slotOf] at h90 h91; simp [execOp, go_sem, h90, h91, his]
        ·intro a W hG hR hO hp; have h92 : slotOf a 92 = .pointer (some ⟨sb, so + i * 2, none⟩) := hp.1; refine kY (v := .pointer (some ⟨sb, so + i * 2 + 1, none⟩)) hG rfl ?_; simp [slotOf] at h92; simp [execOp, go_sem, h92]
        ·intro a W hG hR hO hp; have h93 : slotOf a 93 = .pointer (some ⟨sb, so + i * 2 + 1, none⟩) := hp.1; have c0 := keep_cell s1 hG; refine kY (v := vi s.least) hG rfl ?_; simp [slotOf] at h93; simp [execOp, go_sem, h93, c0]
        ·exact fun a W hG _ hO _ => kM 0 rfl (hO.slot 0 (by kernel_rfl)) rfl hG
        ·exact fun a W hG _ hO _ => kM 13 rfl (hO.slot 13 (by kernel_rfl)) rfl hG
        ·intro a W hG hR hO hp; have h95 : slotOf a 95 = .slice (some ⟨sb, so, none⟩) ss.length sc := hp.1; have h96 : slotOf a 96 = .int .i64 i := hp.2.1; refine kY (v := .pointer (some ⟨sb, so + i * 2, none⟩)) hG rfl ?_; simp [slotOf] at h95 h96; simp [execOp, go_sem, h95, h96, his]
        ·intro a W hG hR hO hp; have h97 : slotOf a 97 = .pointer (some ⟨sb, so + i * 2, none⟩) := hp.1; refine kY (v := .pointer (some ⟨sb, so + i * 2, none⟩)) hG rfl ?_; simp [slotOf] at h97; simp [execOp, go_sem, h97]
        ·intro a W hG hR hO hp; have h98 : slotOf a 98 = .pointer (some ⟨sb, so + i * 2, none⟩) := hp.1; have c0 := keep_cell s0 hG; refine kY (v := .slice s.a s.cs.length s.c) hG rfl ?_; simp [slotOf] at h98; simp [execOp, go_sem, h98, c0]
        ·intro a W hG hR hO hp; have h99 : slotOf a 99 = .slice s.a s.cs.length s.c := hp.1; refine kY (v := .int .i64 s.cs.length) hG rfl ?_; simp [slotOf] at h99; simp [go_sem, h99]
        ·intro a W hG hR hO hp; have h94 : slotOf a 94 = vi s.least := hp.1; have h100 : slotOf a 100 = .int .i64 s.cs.length := hp.2.1; refine kY (v := .bool false) hG rfl ?_; simp [slotOf] at h94 h100; simp [execOp, go_sem, h94, h100, hlc]
       ·intro w9 hG hR
        rintro _ rfl _ rfl _ rfl _ rfl _ rfl _ rfl _ rfl _ rfl _ rfl _ rfl _ rfl _ rfl _ rfl _ rfl _ rfl _ rfl _ rfl _ rfl _ rfl _ rfl _ rfl _ rfl _ rfl _ rfl _ rfl _ rfl _ rfl
        change wpList _ _ _ _ _ _
        simp only [Act.put, List.setIfInBounds_toArray, List.set_cons_zero, List.set_cons_succ, List.drop_succ_cons, List.drop_zero]
        have HN9 := Lib.hid (newer_trans HNR.out hG)
        have HG9 := Lib.hid hG
        have s0 := keep_cell s0 hG
        have s1 := keep_cell s1 hG
        have HRZ := Lib.hid (HRY.out.step HSI.out HSD.out (by rw [sd_len]; exact Int.not_lt.1 hlc))
        clear hG hR x0 x1 x2 x3 x4 x5 hlc
        have HSL := Lib.hid (slope_chain s s.sd w9 (HSO.out.next HG9.out) rfl HSD.out)
        have HLA : Hid (lkA f ss i = if wE s.sd = 0 then mxI 0 (f - wV s.sd) else 0) := Lib.hid (by unfold lkA; rw [HSI.out]; rfl)
        have h0 := wE_is s.sd
        have h1 := wV_bd HSD.out
        obtain ⟨e0, he0⟩ : ∃ e, e = wE s.sd := ⟨_, rfl⟩
        obtain ⟨v0, hv0⟩ : ∃ v, v = wV s.sd := ⟨_, rfl⟩
        rw [<- he0] at h0 HSL HLA
        rw [<- hv0] at h1 HSL HLA
        clear he0 hv0
        go_wp2_with fail
        refine HSL.out.mono ?_
        rintro e wa ⟨s2, rfl, hc, hb⟩
        have HC := Lib.hid (hc _ (newer_refl _))
        have HNA := Lib.hid (newer_trans HG9.out hb)
        clear hc hb HSL s0 s1
        go_wp2_with fail
        refine HC.out.mono ?_
        rintro e wb ⟨a_, A_, n_, c_, rfl, hb⟩
        have HNB := Lib.hid (newer_trans (newer_trans HNA.out hb) (newer_allocH wb (.cells #[vi a_, .slice A_ n_ c_] 40)))
        clear hb HC
        go_upto_region 11 with fail
        refine genQ (fun X => newer wr X) HNB.out ?_
        intro wx hnx
        have hjx := HJ.out.next hnx
        have HJX := Lib.hid hjx
        clear hnx HNB HNA HG9 HN9
        rcases h0 with rfl | rfl
        ·obtain ⟨d0, hd0⟩ : ∃ q : Int, q = f - v0 := ⟨_, rfl⟩
         obtain ⟨mx, hmx⟩ : ∃ q : Int, (if 0 < d0 then d0 else 0) = q := ⟨_, rfl⟩
         have HMX : Hid (lkA f ss i = mx) := Lib.hid (by rw [HLA.out, if_pos rfl, <- hmx, hd0]; rfl)
         have es1 : IntKind.i64.wrap (f - v0) = d0 := by rw [hd0]; exact IntWalk.i64_in _ (by omega)
         have hil : (i : Int) < nS := by omega
         have h1a := h1.1
         have h1b := h1.2
         have hcs := own_cells hjx.own
         obtain ⟨cs, hcs⟩ := hcs
         have lf := hcs.free i
         obtain ⟨_, _, el, _, lc⟩ := row1 (row_of_own (enc := intL) (size := 1) (by decide) (fun _ => rfl) (by rw [<- map_intL]; exact hjx.own)) (lkL_get (f := f) (ss := ss) (i := i) hlt)
         injection el with el
         injection el with el1 el2
         subst el1
         subst el2
         rw [Nat.zero_add] at lc
         clear hjx hd0 hcs h1
         go_wp2_with fail
         refine ⟨⟨i + 1, by omega, rfl, HRZ.out, by have h := HJX.out.set i mx; rw [<- HMX.out, lkL_set hlt, HMX.out] at h; exact h⟩, ?_⟩
         simp [intOf]
         omega
        ·clear hjx
         go_wp2_with fail
         refine ⟨⟨i + 1, by omega, rfl, HRZ.out, by rw [<- lkL_keep hlt (by rw [HLA.out, if_neg (by decide)])]; exact HJX.out⟩, ?_⟩
         simp [intOf]
         omega
   case neg =>
    obtain rfl : nS = i := by omega
    have hge : ¬ (nS : Int) < p.slopes := by have := HNS.out; omega
    clear hry hj hbr hlt
    go_upto_region 15 with fail
    obtain ⟨wl, rfl⟩ : ∃ v, v = wr := ⟨_, rfl⟩
    have HNL := Lib.hid HNR.out
    have HBL := Lib.hid HBR.out
    have HLC := Lib.hid HJ.out
    have HRA : Hid (∀ (i : Nat) (s : Sm), i < nS -> ss[i]? = some s -> SdOk s.sd /\ s.sd.least <= (s.sd.cols.length : Int)) := Lib.hid (fun i s hi hs => HRY.out i s hi hs)
    have HRD : Hid (∀ (i : Nat) (s : Sm), i < nS -> ss[i]? = some s -> SdOk s.sd) := Lib.hid (fun i s hi hs => (HRY.out i s hi hs).1)
    obtain ⟨i0, hi0, hz0, hz1, hz2⟩ := info_parts info_nd
    have HI := Lib.hid (And.intro hi0 (And.intro hz0 (And.intro hz1 hz2)))
    clear hi0 hz0 hz1 hz2 hge
    go_upto_region 17 with fail
    obtain ⟨xb, hxb⟩ : ∃ q, q = wl.heap.size := ⟨_, rfl⟩
    rw [<- hxb]
    have hn1 := newer_allocH wl (.cells (pmC p) 28)
    refine genQ (fun X => NdJ wl.heap.size xb p wl (ndK f ss p.ns 0) none 0 X) ?_ ?_
    ·first
      | exact ⟨newer_allocH _ _, by rw [hxb]; exact Whole.made _ _ _, ⟨rfl, .inl ⟨rfl, rfl⟩⟩, Nat.le_refl _, by rw [hxb]; exact Nat.le_refl _⟩
      | exact ⟨hn1.setCell (p := ⟨xb, 3, none⟩) (by rw [hxb]; exact Nat.le_refl _) _, by rw [hxb]; exact (Whole.made wl 28 (pmC p)).set 3 _, ⟨rfl, .inl ⟨rfl, rfl⟩⟩, Nat.le_refl _, by rw [hxb]; exact Nat.le_refl _⟩
    intro w8 h8
    have HN0 := Lib.hid h8
    clear h8 hn1 hxb x0 x1 x2 x3 x4 x5 HJ HBR HNR
    go_wp2_with fail
    go_loopw [18, 19] (fun s18 _ wr => ∃ (j : Nat) (A : Option Addr) (c : Nat), j <= p.ns.length /\ s18 = vi j /\ NdJ wl.heap.size xb p wl (ndK f ss p.ns j) A c wr) (fun s18 _ _ => p.ns.length - (intOf s18).toNat)
    case atStart => exact ⟨0, none, 0, Nat.zero_le _, rfl, HN0.out⟩
    case round =>
     obtain ⟨j, A, c, hj0, rfl, hj⟩ := hrel
     have HJ := Lib.hid hj
     have HNR := Lib.hid (newer_trans HNL.out hj.nw)
     have hbr := HBL.out.below hj.nw HBL.out.lt
     have HBR := Lib.hid hbr
     have x3 := hbr.at 3 (v := .slice p.na p.ns.length p.nc) rfl
     have hnn := HPO.out.nn
     by_cases hlt : j < p.ns.length
     case pos =>
      have hjn : (j : Int) < p.ns.length := by omega
      obtain ⟨m, hm⟩ : ∃ m, p.ns[j]? = some m := ⟨_, List.getElem?_eq_getElem hlt⟩
      obtain ⟨mb, mo, em, _, m0, m1, m2⟩ := row3W (HOK.out.next HNR.out).ns hm
      rw [em] at x3
      have hmb := ndB_parts (HPO.out.ns m (List.mem_of_getElem? hm))
      obtain ⟨sn, hsn⟩ : ∃ n : Nat, m.slope = n := ⟨m.slope.toNat, by omega⟩
      have hsl2 : sn < nS := by have := HNS.out; omega
      have hsn2 : (sn : Int) < nS := by omega
      rw [hsn] at m0
      obtain ⟨dd, hdd⟩ : ∃ d, d = lkA f ss sn := ⟨_, rfl⟩
      have hlac := (HLC.out.next hj.nw).own
      obtain ⟨lb', lo', el, _, lc⟩ := row1 (row_of_own (enc := intL) (size := 1) (by decide) (fun _ => rfl) (by rw [<- map_intL]; exact hlac)) (lkL_get (f := f) (ss := ss) (i := nS) hsl2)
      injection el with el
      injection el with el1 el2
      subst el1
      subst el2
      rw [Nat.zero_add, if_pos hsl2, <- hdd] at lc
      have HM := Lib.hid (And.intro hm (And.intro hsn hdd))
      have HX3 := Lib.hid (hj.bx)
      clear hm em hmb hsn hdd hlac hsl2 hbr hj
      go_upto_region 22 with fail
      obtain ⟨gb, hgb⟩ : ∃ q, q = wr.heap.size := ⟨_, rfl⟩
      rw [<- hgb]
      have hn1 := newer_allocH wr (.cells #[vi (sn : Int), vi m.year, vi m.due] 49)
      refine genQ (fun X => newer wr X /\ Whole X gb 49 #[vi (sn : Int), vi m.year, vi dd]) ?_ ?_
      ·first
        | exact ⟨hn1.setCell (p := ⟨gb, 2, none⟩) (by rw [hgb]; exact Nat.le_refl _) _, by rw [hgb]; exact (Whole.made wr 49 #[vi (sn : Int), vi m.year, vi m.due]).set 2 _⟩
        | exact ⟨newer_allocH _ _, by rw [hgb]; exact Whole.made _ _ _⟩
      rintro wy ⟨hny, hgy⟩
      have HY := Lib.hid (And.intro hny hgy)
      have hjy := HJ.out.next hny
      have HJY := Lib.hid hjy
      have g0 := hgy.at 0 (v := vi (sn : Int)) rfl
      have g1 := hgy.at 1 (v := vi m.year) rfl
      have g2 := hgy.at 2 (v := vi dd) rfl
      have y3 := hjy.bx.at 3 (v := .slice A (ndK f ss p.ns j).length c) rfl
      have hKl := ndK_len f ss p.ns j
      obtain ⟨K, hK⟩ : ∃ K, K = ndK f ss p.ns j := ⟨_, rfl⟩
      have HKE := Lib.hid hK
      rw [<- hK] at y3 hKl HJY
      clear hn1 hny hgy hgb hjy m0 m1 m2 lc x3 hK
      by_cases hd : 0 < dd
      case pos =>
       obtain ⟨nd, hnd⟩ : ∃ nd : Nd, nd = ⟨(sn : Int), m.year, dd⟩ := ⟨_, rfl⟩
       have HND : Hid (ndO f ss m = some nd) := Lib.hid (by
        unfold ndO
        rw [show m.slope.toNat = sn by rw [HM.out.2.1]; exact Int.toNat_natCast sn, <- HM.out.2.2, if_pos hd, hnd, HM.out.2.1])
       have hno := newer_allocH wy (.cells #[vi (sn : Int), vi m.year, vi dd] 49)
       have HJ3 := Lib.hid (HJY.out.next hno)
       have HRW : Hid (Row ndL 3 (wy.alloc (.cells #[vi (sn : Int), vi m.year, vi dd] 49)) (wy.alloc (.cells #[vi (sn : Int), vi m.year, vi dd] 49)).heap.size (some ⟨wy.heap.size, 0, none⟩) [nd]) := Lib.hid (by rw [hnd]; exact row_of_whole (enc := ndL) (s := 3) (fun _ => rfl) (Whole.made _ _ _) rfl)
       have HSZ := Lib.hid (show wl.heap.size <= (wy.alloc (.cells #[vi (sn : Int), vi m.year, vi dd] 49)).heap.size from HJ3.out.nw.size)
       clear hno hnd
       go_upto_region 19 with (at_builtin; go_loud ((refine wpList_plain rfl fun _ hK => wp_append_all (enc := ndL) (size := 3) wl.heap.size (.tmp 161) (.tmp 163) 24 49 i0 (.agg #[vi 0, vi 0, vi 0]) 24 Try.underlying24 HI.out.1 HI.out.2.1 HI.out.2.2.1 HI.out.2.2.2 rfl (by omega) (fun _ => rfl) ndL_one rfl A K.length c (K.flatMap ndL) rfl HJ3.out.own [nd] (some ⟨wy.heap.size, 0, none⟩) 1 rfl HRW.out (by unfold maxLen; simp only [List.length_singleton]; omega) (by simp only [List.length_singleton]; omega) HSZ.out fun B2 c2 w10 hown hgr hat => hK _ _ ?_); have HQ := Lib.hid (HJ3.out.app hown hgr); have q1 := HQ.out.1.free 3; have q2 := HQ.out.1.at 3 (v := .slice A K.length c) rfl; clear hown hgr hat))
       clear q1 q2 y3 g0 g1 g2
       go_wp2_with fail
       refine ⟨⟨j + 1, B2, c2, by omega, rfl, by rw [ndK_next HM.out.1, HND.out, <- HKE.out]; exact HQ.out.2⟩, ?_⟩
       simp [intOf]
       omega
      case neg =>
       have HND : Hid (ndO f ss m = none) := Lib.hid (by
        unfold ndO
        rw [show m.slope.toNat = sn by rw [HM.out.2.1]; exact Int.toNat_natCast sn, <- HM.out.2.2, if_neg hd])
       go_wp2_with fail
       refine ⟨⟨j + 1, A, c, by omega, rfl, by rw [ndK_next HM.out.1, HND.out, <- HKE.out]; show NdJ _ _ _ _ (K ++ []) _ _ _; rw [List.append_nil]; exact HJY.out⟩, ?_⟩
       simp [intOf]
       omega
     case neg =>
      obtain rfl : p.ns.length = j := by omega
      have hge : ¬ (p.ns.length : Int) < p.ns.length := by omega
      clear hlt hbr
      go_upto_region 24 with fail
      obtain ⟨wn, rfl⟩ : ∃ v, v = wr := ⟨_, rfl⟩
      have HNN := Lib.hid HNR.out
      have HBN := Lib.hid HBR.out
      have hkl := ndK_len f ss p.ns p.ns.length
      have HKM := Lib.hid (held_proj (p := p) (f := f) (ss := ss) (A := A) (c := c) (rfl : ndK f ss p.ns p.ns.length = ndK f ss p.ns p.ns.length))
      obtain ⟨K, hK⟩ : ∃ K, K = ndK f ss p.ns p.ns.length := ⟨_, rfl⟩
      have HKE := Lib.hid hK
      rw [<- hK] at hj hkl HKM
      have HNDJ := Lib.hid hj
      obtain ⟨X, hX⟩ : ∃ X : Pm, X = ⟨p.years, p.slopes, p.ws, p.wa, p.wc, K, A, c, p.vs, p.va, p.vc, p.ps, p.pa, p.pc⟩ := ⟨_, rfl⟩
      have hXv : pmV X = .agg #[vi p.years, vi p.slopes, .slice p.wa p.ws.length p.wc, .slice A K.length c, .slice p.va p.vs.length p.vc, .slice p.pa p.ps.length p.pc] := by rw [hX]
      obtain ⟨q, hq⟩ : ∃ q, q = p.pj := ⟨_, rfl⟩
      obtain ⟨Q, hQ⟩ : ∃ Q, Q = heldQ q f ss := ⟨_, rfl⟩
      have hXj : X.pj = Q := by rw [hX, hQ, hq]; exact HKM.out
      have hf1000 := hfb.2
      have HFQ0 := HFO.out
      rw [<- hq] at HFQ0
      have hqs : q.slopes = (nS : Nat) := by rw [hq]; exact HNS.out
      have hfq : FaultOk Q := by rw [hQ]; exact held_fault HFQ0 hqs hf1000 HRD.out
      have hff := faultOk_iff.2 hfq
      have htq : thinP Q = true := by rw [hQ, hq]; exact held_thin HTP.out
      have hXo : PmOk X wn := by
       have h := HOK.out.next HNN.out
       rw [hX]
       exact ⟨h.ws, h.ad, row_of_own (enc := ndL) (size := 3) (by decide) (fun _ => rfl) hj.own, h.vs, h.ps⟩
      have hXf : PmFew X := thin_few (by rw [hXj]; exact htq)
      have HPJ : Hid (∀ W, newer wn W -> Calls Try.prog 12 #[.agg #[vi p.years, vi p.slopes, .slice p.wa p.ws.length p.wc, .slice A K.length c, .slice p.va p.vs.length p.vc, .slice p.pa p.ps.length p.pc]] W fun e w' => (∃ p' : Pm, e = .returned (pmV p') /\ p'.pj = Q /\ PmOk p' w' /\ p'.ps.length <= p'.pc) /\ newer W w') := Lib.hid (fun W hW => by
       have h := lawProject X W (hXo.next hW) hXf
       rw [hXv, hXj] at h
       exact h)
      have hQn : Q.needs = K := by rw [hQ, hq, HKE.out]; rfl
      have hQw : Q.works = q.works := by rw [hQ]; rfl
      obtain ⟨L, hL⟩ : ∃ L, L = bestL Q := ⟨_, rfl⟩
      obtain ⟨E, hE⟩ : ∃ E, E = bestE Q := ⟨_, rfl⟩
      obtain ⟨C, hC⟩ : ∃ C, C = costOf (bestR Q) := ⟨_, rfl⟩
      have hE2 := bestE_two hff
      rw [<- hE] at hE2
      have HNON : Hid (K = [] -> E = 0 /\ C = 0) := Lib.hid (fun h => by
       have h2 := held_none hfq (by rw [hQn, h])
       rw [hE, hC]
       exact h2)
      have HLW : Hid (E = 0 -> planB q.works L = true /\ ∀ m ∈ q.needs, lkA f ss m.slope.toNat <= togN false m.slope.toNat m.year q.works L) := Lib.hid (fun h => by
       have h2 := held_law HFQ0 hqs hf1000 HRD.out (by rw [<- hQ, <- hE]; exact h)
       rw [<- hQ, <- hL] at h2
       exact h2)
      have HBS : Hid (∀ (p' : Pm) (W : World), p'.pj = Q -> PmOk p' W -> p'.ps.length <= p'.pc -> Calls Try.prog 11 #[pmV p'] W (bestC L C E W)) := Lib.hid (fun p' W h1 h2 h3 => by
       have h := best_list (q := Q) h1 h2 (thin_few (by rw [h1]; exact htq)) h3
       rw [<- hL, <- hC, <- hE] at h
       exact h)
      have HFF := Lib.hid (And.intro hff (And.intro htq hQw))
      have HQQ := Lib.hid (And.intro hq (And.intro HFQ0 hqs))
      have HQS : Hid (Q.slopes = q.slopes /\ Q.years = q.years) := Lib.hid (by rw [hQ]; exact ⟨rfl, rfl⟩)
      have y := hj.bx
      have y0 := y.at 0 (v := vi p.years) rfl
      have y1 := y.at 1 (v := vi p.slopes) rfl
      have y2 := y.at 2 (v := .slice p.wa p.ws.length p.wc) rfl
      have y3 := y.at 3 (v := .slice A K.length c) rfl
      have y4 := y.at 4 (v := .slice p.va p.vs.length p.vc) rfl
      have y5 := y.at 5 (v := .slice p.pa p.ps.length p.pc) rfl
      clear hK hj hX hXv hq hQ hXj hf1000 HFQ0 hqs hfq hff htq hXo hXf hQn hQw hL hE hC y x3 HKM
      go_wp2_with fail
      refine (HPJ.out wn (newer_refl _)).mono ?_
      rintro e wp ⟨⟨p', rfl, hpj, hpo, hpc⟩, hb⟩
      have HB2 := Lib.hid (HBS.out p' wp hpj hpo hpc)
      have HNP := Lib.hid hb
      clear hb hpj hpo hpc y0 y1 y2 y3 y4 y5 HBS
      go_wp2_with fail
      refine HB2.out.mono ?_
      rintro e wq ⟨⟨PA, pc', rfl, hpr⟩, hb⟩
      have HPR := Lib.hid hpr
      have HNQ := Lib.hid (newer_trans HNP.out hb)
      have HNW := Lib.hid (newer_trans HNN.out (newer_trans HNP.out hb))
      have y := (HNDJ.out.bx.below (newer_trans HNP.out hb) HNDJ.out.bx.lt)
      have y0 := y.at 0 (v := vi p.years) rfl
      have y1 := y.at 1 (v := vi p.slopes) rfl
      have y2 := y.at 2 (v := .slice p.wa p.ws.length p.wc) rfl
      have y3 := y.at 3 (v := .slice A K.length c) rfl
      have y4 := y.at 4 (v := .slice p.va p.vs.length p.vc) rfl
      have y5 := y.at 5 (v := .slice p.pa p.ps.length p.pc) rfl
      clear hb hpr y HB2
      rcases hE2 with rfl | rfl
      case inr =>
       have hkp : 0 < K.length := by
        rcases K with _ | ⟨k0, K⟩
        ·have := (HNON.out rfl).1
         omega
        ·simp
       have hkp2 : (0 : Int) < K.length := by omega
       go_wp2_with fail
       refine (topHolds_any _).mono ?_
       rintro e wk ⟨rfl, hb⟩
       have HK := Lib.hid (newer_trans HNW.out hb)
       clear hb
       go_wp2_with fail
       go_ret
       exact ⟨rfl, HK.out⟩
      case inl =>
       have hlw := HLW.out rfl
       have hll : L.length = p.ws.length := by
        have h := (plan_iff.1 hlw.1).1
        rw [h, HQQ.out.1]
        simp [Pm.pj]
       have HLP := Lib.hid (And.intro hlw hll)
       have hcz : K = [] -> C = 0 := fun h => (HNON.out h).2
       rw [hll]
       clear hlw hll
       go_upto_region 27 with fail
       go_cut [201] from 186 to 201 (fun s201 wx => s201 = .bool false /\ wq = wx)
       case first =>
        by_cases hk0 : K.length = 0
        ·have hc0 : C = 0 := hcz (List.eq_nil_of_length_eq_zero hk0)
         subst hc0
         have hkb : ((K.length : Int) == 0) = true := by simp [hk0]
         have hkb2 : (K.length == 0) = true := by simp [hk0]
         clear hk0 hcz
         go_wp2_with fail
         go_meet
         exact ⟨rfl, rfl⟩
        ·have hkb : ((K.length : Int) == 0) = false := by simp [hk0]
         have hkb2 : (K.length == 0) = false := by simp [hk0]
         go_wp2_with fail
         go_meet
         exact ⟨rfl, rfl⟩
       case rest =>
        obtain ⟨rfl, rfl⟩ := hcut
        clear y0 y1 y2 y3 y4 y5 hcz
        go_wp2_with fail
        go_loopw [23, 24, 25, 26, 27, 28, 29, 30] (fun s23 _ _ _ _ _ _ _ wr => ∃ j : Nat, j <= p.ns.length /\ s23 = vi j /\ newer wq wr) (fun s23 _ _ _ _ _ _ _ _ => p.ns.length - (intOf s23).toNat)
        case atStart => exact ⟨0, Nat.zero_le _, rfl, newer_refl _⟩
        case round =>
         obtain ⟨j, hj0, rfl, hnr⟩ := hrel
         have HNR := Lib.hid hnr
         have HNR2 := Lib.hid (newer_trans HNW.out hnr)
         have x3 := (HBN.out.below (newer_trans HNQ.out hnr) HBN.out.lt).at 3 (v := .slice p.na p.ns.length p.nc) rfl
         by_cases hlt : j < p.ns.length
         case pos =>
          have hjn : (j : Int) < p.ns.length := by omega
          obtain ⟨m, hm⟩ : ∃ m, p.ns[j]? = some m := ⟨_, List.getElem?_eq_getElem hlt⟩
          obtain ⟨mb, mo, em, _, m0, m1, m2⟩ := row3W (HOK.out.next HNR2.out).ns hm
          rw [em] at x3
          have hmb := ndB_parts (HPO.out.ns m (List.mem_of_getElem? hm))
          obtain ⟨sn, hsn⟩ : ∃ n : Nat, m.slope = n := ⟨m.slope.toNat, by omega⟩
          obtain ⟨yn, hyn⟩ : ∃ n : Nat, m.year = n := ⟨m.year.toNat, by omega⟩
          have hsl2 : sn < nS := by have := HNS.out; omega
          have hyl2 : (yn : Int) < p.years := by omega
          have hss2 : (sn : Int) < ss.length := by omega
          rw [hsn] at m0
          rw [hyn] at m1
          obtain ⟨s, hs⟩ : ∃ s, ss[sn]? = some s := ⟨_, List.getElem?_eq_getElem (by omega)⟩
          have hrs := HRA.out sn s hsl2 hs
          have HM := Lib.hid (And.intro hm (And.intro hsn hyn))
          have HSI := Lib.hid (And.intro hs (And.intro hsl2 hyl2))
          have HSD := Lib.hid hrs.1
          have HLE := Lib.hid hrs.2
          have HIS := Lib.hid ((HSS.out.next HNR2.out).at_ s (List.mem_of_getElem? hs))
          have hmd := hmb.2.2
          clear hm em hmb hsn hyn hs hrs hlt hnr hsl2 hyl2
          go_upto_region 33 with fail
          obtain ⟨gb, hgb⟩ : ∃ q, q = wr.heap.size := ⟨_, rfl⟩
          rw [<- hgb]
          refine genQ (fun X => newer wr X /\ Whole X gb 49 #[vi (sn : Int), vi (yn : Int), vi m.due]) ⟨newer_allocH _ _, by rw [hgb]; exact Whole.made _ _ _⟩ ?_
          rintro wy ⟨hny, hgy⟩
          have g0 := hgy.at 0 (v := vi (sn : Int)) rfl
          obtain ⟨sb', so', es, _, s0, s1⟩ := rowSl (HSS.out.next (newer_trans HNR2.out hny)).row HSI.out.1
          injection es with es
          injection es with es1 es2
          subst es1
          subst es2
          have HY := Lib.hid (And.intro hny hgy)
          clear hny hgy m0 m1 m2 x3 hgb
          go_upto_region 34 with fail
          obtain ⟨tb, htb⟩ : ∃ q, q = wy.heap.size := ⟨_, rfl⟩
          rw [<- htb]
          have hn2 := newer_allocH wy (.cells (smC s) 38)
          refine genQ (fun X => newer wr X /\ Whole X gb 49 #[vi (sn : Int), vi (yn : Int), vi m.due] /\ Whole X tb 38 (smC s)) ⟨newer_trans HY.out.1 hn2, HY.out.2.below hn2 HY.out.2.lt, by rw [htb]; exact Whole.made _ _ _⟩ ?_
          rintro wz ⟨hnz, hgz, htz⟩
          have HZ := Lib.hid (And.intro hnz (And.intro hgz htz))
          have x0 := htz.at 0 (v := .slice s.a s.cs.length s.c) rfl
          have x1 := htz.at 1 (v := vi s.least) rfl
          have HPA := Lib.hid (path_any s ws wa wc wz (HIS.out.next hnz) ((HWR.out.1.below (newer_trans HNR2.out hnz)).more (newer_trans HNR2.out hnz).size) HSD.out HLE.out)
          clear hn2 hnz hgz htz htb s0 s1 g0 HY
          go_wp2_with fail
          refine HPA.out.mono ?_
          rintro e wu ⟨u, rfl, huo, ⟨k0, l, hf, hl, hsf⟩, hb⟩
          have hn3 := newer_allocH wu (.cells (suC u) 57)
          have HU := Lib.hid (And.intro (newer_trans HZ.out.1 hb) (And.intro (HZ.out.2.1.below hb HZ.out.2.1.lt) (HZ.out.2.2.below hb HZ.out.2.2.lt)))
          have HUO := Lib.hid huo
          have HSF := Lib.hid (And.intro hf (And.intro hl hsf))
          clear hb huo x0 x1 HPA HZ hf hl hsf
          go_upto_region 35 with fail
          obtain ⟨ub, hub⟩ : ∃ q, q = wu.heap.size := ⟨_, rfl⟩
          rw [<- hub]
          refine genQ (fun X => newer wr X /\ Whole X gb 49 #[vi (sn : Int), vi (yn : Int), vi m.due] /\ Whole X tb 38 (smC s) /\ Whole X ub 57 (suC u) /\ SuOk u X) ⟨newer_trans HU.out.1 hn3, HU.out.2.1.below hn3 HU.out.2.1.lt, HU.out.2.2.below hn3 HU.out.2.2.lt, by rw [hub]; exact Whole.made _ _ _, HUO.out.next hn3⟩ ?_
          rintro wv ⟨hnv, hgv, htv, huv, huo⟩
          have HV := Lib.hid (And.intro hnv (And.intro hgv (And.intro htv huv)))
          obtain ⟨hf, hl, hsf⟩ := HSF.out
          obtain ⟨eb, e5, r0, r1, hk⟩ := surf_known HSD.out hf hl hsf
          have HK := Lib.hid hk
          have hul : u.beds.length <= 1000 := by have h1 := hsf.2.1; have h2 := HSD.out.cols; rw [sd_len] at h2; rw [hl, List.length_map]; omega
          have HUK := Lib.hid (And.intro hul huo)
          have HFW := Lib.hid (few_of HSD.out)
          have HSO := Lib.hid (HIS.out.next hnv)
          have HFP : Hid (∀ (s2 : Sm) (u2 : Su) (B : Option Addr) (d : Nat) (tl : List Rl) W, s2.sd = s.sd -> SmOk s2 W -> u2.frm = u.frm -> u2.beds = u.beds -> SuOk u2 W -> Row rlL 3 W W.heap.size B tl -> tl.length <= 1000 -> Calls Try.prog 14 #[smV s2, suV u2, .slice B tl.length d] W fun e w' => e = .returned (.tuple #[vi (facO s.sd u.frm u.beds tl).1, vi (facO s.sd u.frm u.beds tl).2]) /\ newer W w') := Lib.hid (fun s2 u2 B d tl W h1 h2 h3 h4 h5 h6 h8 => by
           have h7 := factorP_any s2 u2 tl B d W h2 (few_sd h1 HFW.out) h5 (by rw [h4]; exact HUK.out.1) h8 h6
           rw [h1, h3, h4] at h7
           exact h7)
          have hhr := (HWR.out.2.below (newer_trans HNR2.out hnv)).more (newer_trans HNR2.out hnv).size
          have HPI : Hid (∀ W, newer wv W -> SuOk u W -> Calls Try.prog 17 #[smV s, suV u, .slice HA hs.length hc] W fun e w' => ∃ A c tl, e = .returned (.slice A (tl : List Rl).length c) /\ Row rlL 3 w' w'.heap.size A tl /\ FacK s.sd u.frm u.beds e5 r0 r1 tl /\ newer W w') := Lib.hid (fun W hW hu => by
           refine (picked_any s u k0 l hs HA hc W (HSO.out.next hW) HSD.out hu hf hl hsf ((hhr.below hW).more hW.size)).mono ?_
           rintro e w' ⟨tl, A, c, rfl, h1, h2, h3⟩
           rw [<- eb] at h2
           have h4 := HK.out.fit tl h2
           have h5 := fits_len h2
           rw [eb, bedsL_len] at h5
           have h6 := HUK.out.1
           rw [hl, List.length_map] at h6
           exact ⟨A, c, tl, rfl, h1, ⟨by omega, fun h => by rw [h4.1 h], h4.2⟩, h3⟩)
          have x0 := htv.at 0 (v := .slice s.a s.cs.length s.c) rfl
          have x1 := htv.at 1 (v := vi s.least) rfl
          have u0 := huv.at 0 (v := vi u.frm) rfl
          have u1 := huv.at 1 (v := .slice u.a u.beds.length u.c) rfl
          have HR1 : Hid (e5 = 0 -> r1 <= 10000 /\ wE s.sd = 0 /\ wV s.sd <= r0) := Lib.hid (fun h => ⟨by rw [<- hk.sp.2.2]; exact spanP_le _ _ _ _, hk.low h⟩)
          clear hnv hgv htv huv huo hf hl hsf eb hk hul hhr hn3 hub HU HUO
          go_upto_region 35 with fail
          refine wp_words (by kernel_rfl) (region_told 14 (by kernel_rfl) (by kernel_rfl) (fun W => Below wv.heap.size wv W) newer (pickD [vIs (smV s), vSlo s.sd, vIs (suV u), vSuf u.frm u.beds, vIs (smV s), vIs (suV u), vIs (.slice HA hs.length hc), vTruK s.sd u.frm u.beds e5 r0 r1, vTruK s.sd u.frm u.beds e5 r0 r1, vFac e5 r0 r1, vFac e5 r0 r1, vFp e5 r0 r1, vFq e5, vFp e5 r0 r1]) (fun h k => newer_trans h k) (pickD_stable _ ⟨vIs_st, vSlo_st, vIs_st, vSuf_st, vIs_st, vIs_st, vIs_st, vTruK_st, vTruK_st, vFac_st, vFac_st, vFp_st, vFq_st, vFp_st, trivial⟩) (Below.refl _ wv).drew (Below.refl _ _) ?_ ?_)
          ·refine ⟨?_, ?_, ?_, ?_, ?_, ?_, ?_, ?_, ?_, ?_, ?_, ?_, ?_, ?_, trivial⟩
           ·intro a W hG hR hO hp; have h25 := hO.slot 25 (by kernel_rfl); have c0 := keep_cell x0 hG; have c1 := keep_cell x1 hG; refine kY (v := smV s) hG rfl ?_; simp [slotOf] at h25; simp [execOp, go_sem, h25, c0, c1]
           ·intro a W hG hR hO hp
            have h223 : slotOf a 223 = smV s := hp.1
            refine wp_enters (f := 10) (args := #[smV s]) ?_ ((lawSlope s W (HSO.out.next hG) HFW.out).mono ?_)
            ·simp [slotOf] at h223
             simp [go_sem, h223]
            ·rintro e w' ⟨s2, rfl, h1, h2, hb⟩
             exact ⟨_, rfl, _, rfl, ⟨s2, rfl, h1, h2⟩, hb, below_next hG hb⟩
           ·intro a W hG hR hO hp; have h26 := hO.slot 26 (by kernel_rfl); have c0 := keep_cell u0 hG; have c1 := keep_cell u1 hG; refine kY (v := suV u) hG rfl ?_; simp [slotOf] at h26; simp [execOp, go_sem, h26, c0, c1]
           ·intro a W hG hR hO hp
            have h225 : slotOf a 225 = suV u := hp.1
            refine wp_enters (f := 15) (args := #[suV u]) ?_ ((lawSurface u W (HUK.out.2.next hG) HUK.out.1).mono ?_)
            ·simp [slotOf] at h225
             simp [go_sem, h225]
            ·rintro e w' ⟨u2, rfl, h1, h2, h3, hb⟩
             exact ⟨_, rfl, _, rfl, ⟨u2, rfl, h1, h2, h3⟩, hb, below_next hG hb⟩
           ·intro a W hG hR hO hp; have h25 := hO.slot 25 (by kernel_rfl); have c0 := keep_cell x0 hG; have c1 := keep_cell x1 hG; refine kY (v := smV s) hG rfl ?_; simp [slotOf] at h25; simp [execOp, go_sem, h25, c0, c1]
           ·intro a W hG hR hO hp; have h26 := hO.slot 26 (by kernel_rfl); have c0 := keep_cell u0 hG; have c1 := keep_cell u1 hG; refine kY (v := suV u) hG rfl ?_; simp [slotOf] at h26; simp [execOp, go_sem, h26, c0, c1]
           ·exact fun a W hG _ hO _ => kM 4 rfl (hO.slot 4 (by kernel_rfl)) rfl hG
           ·intro a W hG hR hO hp
            have h227 : slotOf a 227 = smV s := hp.1
            have h228 : slotOf a 228 = suV u := hp.2.1
            have h229 : slotOf a 229 = .slice HA hs.length hc := hp.2.2.1
            refine wp_enters (f := 17) (args := #[smV s, suV u, .slice HA hs.length hc]) ?_ ((HPI.out W hG (HUK.out.2.next hG)).mono ?_)
            ·simp [slotOf] at h227 h228 h229
             simp [go_sem, h227, h228, h229]
            ·rintro e w' ⟨A, c, tl, rfl, h1, h2, hb⟩
             exact ⟨_, rfl, _, rfl, ⟨A, c, tl, rfl, h1, h2⟩, hb, below_next hG hb⟩
           ·intro a W hG hR hO hp
            have h230 := hp.1
            obtain ⟨A, c, tl, h230, hr1, hk1⟩ := h230
            refine wp_enters (f := 16) (args := #[.slice A tl.length c]) ?_ ((lawTruth tl A c W hk1.1 hr1).mono ?_)
            ·simp [slotOf] at h230
             simp [go_sem, h230]
            ·rintro e w' ⟨B, d, rfl, h1, hb⟩
             exact ⟨_, rfl, _, rfl, ⟨B, d, tl, rfl, h1, hk1⟩, hb, below_next hG hb⟩
           ·intro a W hG hR hO hp
            have h224 := hp.1
            have h226 := hp.2.1
            have h231 := hp.2.2.1
            obtain ⟨s2, h224, hd2, hs2⟩ := h224
            obtain ⟨u2, h226, hf2, hl2, hu2⟩ := h226
            obtain ⟨B, c, tl, h231, hr2, hk2⟩ := h231
            have hfp := HFP.out s2 u2 B c tl W hd2 hs2 hf2 hl2 hu2 hr2 hk2.1
            refine wp_enters (f := 14) (args := #[smV s2, suV u2, .slice B tl.length c]) ?_ (hfp.mono ?_)
            ·simp [slotOf] at h224 h226 h231
             simp [go_sem, h224, h226, h231]
            ·rintro e w' ⟨rfl, hb⟩
             exact ⟨_, rfl, _, rfl, ⟨_, _, rfl, hk2.2.1, hk2.2.2⟩, hb, below_next hG hb⟩
           ·intro a W hG hR hO hp; have h232 := hp.1; obtain ⟨p, q, h232, g1, g2⟩ := h232; refine wp_yields (v := .tuple #[vi p, vi q]) ?_ ⟨_, rfl, ⟨p, q, rfl, g1, g2⟩, Below.refl _ _, hG⟩; simp [slotOf] at h232; simp [execOp, go_sem, h232]
           ·intro a W hG hR hO hp; have h222 := hp.1; obtain ⟨p, q, h222, g1, g2⟩ := h222; refine wp_yields (v := vi p) ?_ ⟨_, rfl, ⟨p, rfl, fun h => (g2 h).2⟩, Below.refl _ _, hG⟩; simp [slotOf] at h222; simp [execOp, go_sem, h222]
           ·intro a W hG hR hO hp; have h222 := hp.1; obtain ⟨p, q, h222, g1, g2⟩ := h222; refine wp_yields (v := vi q) ?_ ⟨_, rfl, ⟨q, rfl, g1, fun h => (g2 h).1⟩, Below.refl _ _, hG⟩; simp [slotOf] at h222; simp [execOp, go_sem, h222]
           ·intro a W hG hR hO hp; have h233 := hp.1; obtain ⟨p, h233, g1⟩ := h233; refine wp_yields (v := vi p) ?_ ⟨_, rfl, ⟨p, rfl, g1⟩, Below.refl _ _, hG⟩; simp [slotOf] at h233; simp [execOp, go_sem, h233]
          ·intro w1 hG hR
           rintro _ rfl _ - _ rfl _ - _ rfl _ rfl _ rfl _ - _ - _ - _ - _ - _ ⟨qn, rfl, qn7, qn0⟩ _ ⟨pn, rfl, pn0⟩
           change wpList _ _ _ _ _ _
           simp only [Act.put, List.setIfInBounds_toArray, List.set_cons_zero, List.set_cons_succ, List.drop_succ_cons, List.drop_zero]
           have HG := Lib.hid hG
           have HW1 := Lib.hid (newer_trans HV.out.1 hG)
           have hg1 := HV.out.2.1.below hG HV.out.2.1.lt
           have g0 := hg1.at 0 (v := vi (sn : Int)) rfl
           have g1 := hg1.at 1 (v := vi (yn : Int)) rfl
           have y := (HNDJ.out.bx.below (newer_trans HNQ.out (newer_trans HNR.out HW1.out)) HNDJ.out.bx.lt)
           have y0 := y.at 0 (v := vi p.years) rfl
           have y1 := y.at 1 (v := vi p.slopes) rfl
           have y2 := y.at 2 (v := .slice p.wa p.ws.length p.wc) rfl
           have y3 := y.at 3 (v := .slice A K.length c) rfl
           have y4 := y.at 4 (v := .slice p.va p.vs.length p.vc) rfl
           have y5 := y.at 5 (v := .slice p.pa p.ps.length p.pc) rfl
           have HPR1 := Lib.hid ((HPR.out.below (newer_trans HNR.out HW1.out)).more (newer_trans HNR.out HW1.out).size)
           have HW9 := Lib.hid (newer_trans HNQ.out (newer_trans HNR.out HW1.out))
           obtain ⟨a0, ha0⟩ : ∃ a, a = togN false sn yn q.works L := ⟨_, rfl⟩
           obtain ⟨a1, ha1⟩ : ∃ a, a = togN true sn yn q.works L := ⟨_, rfl⟩
           have hqs : q.slopes = p.slopes /\ q.years = p.years := by rw [HQQ.out.1]; exact ⟨rfl, rfl⟩
           have hsq : (sn : Int) < q.slopes := by rw [HQQ.out.2.2]; have := HSI.out.2.1; omega
           have ha0b : 0 <= a0 /\ a0 <= 100000 := by
            rw [ha0]
            exact ⟨tog_pos HQQ.out.2.1 hsq yn L, tog_top HQQ.out.2.1 hsq yn (by rw [HLP.out.2, HQQ.out.1]; simp [Pm.pj]) false⟩
           have HLK : Hid (lkA f ss sn <= a0) := Lib.hid (by
            have h := HLP.out.1.2 m (by rw [HQQ.out.1]; exact List.mem_of_getElem? HM.out.1)
            rw [HM.out.2.1, HM.out.2.2, Int.toNat_natCast, <- ha0] at h
            exact h)
           have HAD : Hid (∀ (p' : Pm) (W : World) (B : Option Addr) (d : Nat), p'.pj = Q -> PmOk p' W -> Row intL 1 W W.heap.size B L -> Calls Try.prog 18 #[pmV p', .slice B L.length d, .int .i64 (sn : Int), .int .i64 (yn : Int)] W fun e w' => e = .returned (.tuple #[.agg #[vi a0, vi a1], vi 0]) /\ newer W w') := Lib.hid (fun p' W B d h1 h2 h3 => by
            have h := adds_of (q := Q) (plan := L) (s := sn) (y := yn) (L := B) (lp := d) h1 h2 (thin_few (by rw [h1]; exact HFF.out.2.1)) (by rw [HLP.out.2]; have := HPO.out.wn; omega) HFF.out.1 (by rw [HFF.out.2.2]; exact HLP.out.1.1) (by rw [HQS.out.1, hqs.1, <- hqs.1]; exact hsq) (by rw [HQS.out.2, hqs.2]; exact HSI.out.2.2) h3
            rw [HFF.out.2.2, <- ha0, <- ha1] at h
            exact h)
           clear hG hR x0 x1 u0 u1 hg1 y ha0 ha1 hqs hsq HUK HFP HPI
           go_upto_region 36 with fail
           refine wp_words (by kernel_rfl) (region_late 15 14 (by kernel_rfl) (by kernel_rfl) (by decide) (by kernel_rfl) (fun W => Below w1.heap.size w1 W) (pickB [vIs (.agg #[vi p.years, vi p.slopes, .slice p.wa p.ws.length p.wc, .slice A K.length c, .slice p.va p.vs.length p.vc, .slice p.pa p.ps.length p.pc]), vPrj Q, vEmpT w1.heap.size 3, vIs (.slice PA p.ws.length pc'), vLst L, vIs (.pointer (some ⟨gb, 0, none⟩)), vIs (vi (sn : Int)), vIs (.pointer (some ⟨gb, 1, none⟩)), vIs (vi (yn : Int)), vIs (.tuple #[.agg #[vi a0, vi a1], vi 0]), vIs (.tuple #[.agg #[vi a0, vi a1], vi 0]), vIs (.agg #[vi a0, vi a1]), vIs (vi 0), vNew w1.heap.size 67 #[vi 0, vi 0], (fun _ _ => True)] [(fun _ _ => True), (fun _ _ => True), (fun _ _ => True), (fun _ _ => True), (fun _ _ => True), (fun _ _ => True), (fun _ _ => True), (fun _ _ => True), (fun _ _ => True), (fun _ _ => True), vIs (.tuple #[.agg #[vi a0, vi a1], vi 0]), (fun _ _ => True), vIs (vi 0), vNew w1.heap.size 67 #[vi a0, vi a1], (fun _ _ => True)]) (pickB_stable ⟨vIs_st, vPrj_st, vEmpT_st, vIs_st, vLst_st, vIs_st, vIs_st, vIs_st, vIs_st, vIs_st, vIs_st, vIs_st, vIs_st, vNew_st, (fun _ _ _ h _ => h), trivial⟩ ⟨(fun _ _ _ h _ => h), (fun _ _ _ h _ => h), (fun _ _ _ h _ => h), (fun _ _ _ h _ => h), (fun _ _ _ h _ => h), (fun _ _ _ h _ => h), (fun _ _ _ h _ => h), (fun _ _ _ h _ => h), (fun _ _ _ h _ => h), (fun _ _ _ h _ => h), vIs_st, (fun _ _ _ h _ => h), vIs_st, vNew_st, (fun _ _ _ h _ => h), trivial⟩) (Below.refl _ w1).drew ?_ ?_)
           ·refine ⟨?_, ?_, ?_, ?_, ?_, ?_, ?_, ?_, ?_, ?_, ?_, ?_, ?_, ?_, ?_, trivial⟩
            ·intro a W hG hO hp; have h17 := hO.slot 17 (by kernel_rfl); have c0 := keep_cell y0 hG; have c1 := keep_cell y1 hG; have c2 := keep_cell y2 hG; have c3 := keep_cell y3 hG; have c4 := keep_cell y4 hG; have c5 := keep_cell y5 hG; refine wp_yields (v := .agg #[vi p.years, vi p.slopes, .slice p.wa p.ws.length p.wc, .slice A K.length c, .slice p.va p.vs.length p.vc, .slice p.pa p.ps.length p.pc]) ?_ ⟨_, rfl, rfl, Below.refl _ _, hG⟩; simp [slotOf] at h17; simp [execOp, go_sem, h17, c0, c1, c2, c3, c4, c5]
            ·intro a W hG hO hp
             have h236 : slotOf a 236 = .agg #[vi p.years, vi p.slopes, .slice p.wa p.ws.length p.wc, .slice A K.length c, .slice p.va p.vs.length p.vc, .slice p.pa p.ps.length p.pc] := hp.1
             refine wp_enters (f := 12) (args := #[.agg #[vi p.years, vi p.slopes, .slice p.wa p.ws.length p.wc, .slice A K.length c, .slice p.va p.vs.length p.vc, .slice p.pa p.ps.length p.pc]]) ?_ ((HPJ.out W (newer_trans HW9.out hG)).mono ?_)
             ·simp [slotOf] at h236
              simp [go_sem, h236]
             ·rintro e w' ⟨⟨p', rfl, h1, h2, h3⟩, hb⟩
              exact ⟨_, rfl, _, rfl, ⟨p', rfl, h1, h2, h3⟩, hb, below_next hG hb⟩
            ·intro a W hG hO hp; refine wp_makes (v := .slice (some ⟨W.heap.size, 0, none⟩) 0 0) (W' := W.alloc (.cells #[] 3)) ?_ ⟨_, rfl, ⟨W.heap.size, rfl, hG.size, Whole.made _ _ _⟩, newer_allocH _ _, below_next hG (newer_allocH _ _)⟩; simp [execOp, go_sem]
            ·intro a W hG hO hp; have h20 := hO.slot 20 (by kernel_rfl); refine wp_yields (v := .slice PA p.ws.length pc') ?_ ⟨_, rfl, rfl, Below.refl _ _, hG⟩; simp [slotOf] at h20; simp [execOp, go_sem, h20]
            ·intro a W hG hO hp; have h238 := hp.1; have h239 : slotOf a 239 = .slice PA p.ws.length pc' := hp.2.1; obtain ⟨nb, h238, hnb, hwn⟩ := h238; obtain ⟨i1, hi1, hz0, hz1, hz2⟩ := info_parts info_in; refine wp_append_owncopy (enc := intL) (size := 1) 0 (.tmp 238) (.tmp 239) 26 3 i1 (vi 0) 8 Try.underlying26 hi1 hz0 hz1 hz2 rfl (by omega) (by omega) (fun _ => rfl) rfl nb ((eval_slot a 238).trans h238) (Nat.zero_le _) hwn L PA pc' ((eval_slot a 239).trans (by rw [HLP.out.2]; exact h239)) (by rw [HLP.out.2]; have := HPO.out.wn; omega) ((HPR1.out.below hG).more hG.size) (Nat.zero_le _) ?_; intro B c w2 hown hb _; exact ⟨_, rfl, ⟨B, c, rfl, row_of_own (enc := intL) (size := 1) (by decide) (fun _ => rfl) hown⟩, hb, below_next hG hb⟩
            ·intro a W hG hO hp; have h24 := hO.slot 24 (by kernel_rfl); refine wp_yields (v := .pointer (some ⟨gb, 0, none⟩)) ?_ ⟨_, rfl, rfl, Below.refl _ _, hG⟩; simp [slotOf] at h24; simp [execOp, go_sem, h24]
            ·intro a W hG hO hp; have h241 : slotOf a 241 = .pointer (some ⟨gb, 0, none⟩) := hp.1; have c0 := keep_cell g0 hG; refine wp_yields (v := vi (sn : Int)) ?_ ⟨_, rfl, rfl, Below.refl _ _, hG⟩; simp [slotOf] at h241; simp [execOp, go_sem, h241, c0]
            ·intro a W hG hO hp; have h24 := hO.slot 24 (by kernel_rfl); refine wp_yields (v := .pointer (some ⟨gb, 1, none⟩)) ?_ ⟨_, rfl, rfl, Below.refl _ _, hG⟩; simp [slotOf] at h24; simp [execOp, go_sem, h24]
            ·intro a W hG hO hp; have h243 : slotOf a 243 = .pointer (some ⟨gb, 1, none⟩) := hp.1; have c0 := keep_cell g1 hG; refine wp_yields (v := vi (yn : Int)) ?_ ⟨_, rfl, rfl, Below.refl _ _, hG⟩; simp [slotOf] at h243; simp [execOp, go_sem, h243, c0]
            ·intro a W hG hO hp
             have h237 := hp.1
             have h240 := hp.2.1
             have h242 : slotOf a 242 = vi (sn : Int) := hp.2.2.1
             have h244 : slotOf a 244 = vi (yn : Int) := hp.2.2.2.1
             obtain ⟨p', h237, h1, h2, _⟩ := h237
             obtain ⟨B, c, h240, hr⟩ := h240
             refine wp_enters (f := 18) (args := #[pmV p', .slice B L.length c, .int .i64 (sn : Int), .int .i64 (yn : Int)]) ?_ ((HAD.out p' W B c h1 h2 hr).mono ?_)
             ·simp [slotOf] at h237 h240 h242 h244
              simp [go_sem, h237, h240, h242, h244]
             ·rintro e w' ⟨rfl, hb⟩
              exact ⟨_, rfl, _, rfl, rfl, hb, below_next hG hb⟩
            ·intro a W hG hO hp; have h245 : slotOf a 245 = .tuple #[.agg #[vi a0, vi a1], vi 0] := hp.1; refine wp_yields (v := .tuple #[.agg #[vi a0, vi a1], vi 0]) ?_ ⟨_, rfl, rfl, Below.refl _ _, hG⟩; simp [slotOf] at h245; simp [execOp, go_sem, h245]
            ·intro a W hG hO hp; have h235 : slotOf a 235 = .tuple #[.agg #[vi a0, vi a1], vi 0] := hp.1; refine wp_yields (v := .agg #[vi a0, vi a1]) ?_ ⟨_, rfl, rfl, Below.refl _ _, hG⟩; simp [slotOf] at h235; simp [execOp, go_sem, h235]
            ·intro b a W hG hO hp
             have h235 : slotOf a 235 = .tuple #[.agg #[vi a0, vi a1], vi 0] := by cases b <;> exact hp.1
             refine wp_yields (v := vi 0) ?_ ⟨_, rfl, (by cases b <;> rfl), Below.refl _ _, hG⟩
             simp [slotOf] at h235
             simp [execOp, go_sem, h235]
            ·intro a W hG hO hp; refine wp_makes (v := .pointer (some ⟨W.heap.size, 0, none⟩)) (W' := W.alloc (.cells #[vi 0, vi 0] 67)) ?_ ⟨_, rfl, ⟨_, rfl, hG.size, Whole.made _ _ _⟩, newer_allocH _ _, below_next hG (newer_allocH _ _)⟩; skip; simp [execOp, go_sem]
            ·intro a W hG hO hp
             have h29 := hp.1
             have h246 : slotOf a 246 = .agg #[vi a0, vi a1] := hp.2.1
             obtain ⟨fb2, h29, hfb2, hwf⟩ := h29
             have b0 := hwf.at 0 rfl
             have b1 := hwf.at 1 rfl
             have f0 := hwf.free 0
             have f1 := hwf.free 1
             have hq := h29
             simp [slotOf] at h29 h246
             refine wp_storesE (W' := (W.setCell ⟨fb2, 0, none⟩ (vi a0)).setCell ⟨fb2, 1, none⟩ (vi a1)) (by simp [execOp, go_sem, h29, h246, b0, b1, f0, f1]) ⟨rfl, (hG.setCell (p := ⟨fb2, 0, none⟩) hfb2 _).setCell (p := ⟨fb2, 1, none⟩) hfb2 _, ?_⟩
             intro j oj d hj hoj hd hD
             match j, hoj, hD with
             | 0, _, _ => trivial
             | 1, _, _ => trivial
             | 2, _, _ => trivial
             | 3, _, _ => trivial
             | 4, _, _ => trivial
             | 5, _, _ => trivial
             | 6, _, _ => trivial
             | 7, _, _ => trivial
             | 8, _, _ => trivial
             | 9, _, _ => trivial
             | 10, _, hD =>
              exact hD
             | 11, _, _ => trivial
             | 12, _, hD =>
              exact hD
             | 13, hoj, _ =>
              obtain rfl := Option.some.inj hoj
              obtain rfl := Option.some.inj hd
              exact ⟨fb2, hq, hfb2, (hwf.set 0 _).set 1 _⟩
             | 14, _, _ => trivial
             | (_ + 15), _, _ => omega
           ·intro w2 hG
            rintro _ - _ - _ - _ - _ - _ - _ - _ - _ - _ - _ - _ - _ rfl _ ⟨fb2, rfl, hfb2, hwf⟩
            change wpList _ _ _ _ _ _
            simp only [Act.put, List.setIfInBounds_toArray, List.set_cons_zero, List.set_cons_succ, List.drop_succ_cons, List.drop_zero]
            have b0 := hwf.at 0 (v := vi a0) rfl
            have HNE2 := Lib.hid (newer_trans HNR.out (newer_trans HW1.out hG))
            have HLA : Hid (lkA f ss sn = if wE s.sd = 0 then mxI 0 (f - wV s.sd) else 0) := Lib.hid (by unfold lkA; rw [HSI.out.1]; rfl)
            clear hG hfb2 hwf g0 g1 y0 y1 y2 y3 y4 y5
            rcases HK.out.eor with rfl | rfl
            ·obtain rfl := qn7 rfl
             clear pn0 qn7 qn0
             go_wp2_with fail
             refine ⟨⟨j + 1, by omega, rfl, HNE2.out⟩, ?_⟩
             simp [intOf]
             omega
            ·obtain rfl := qn0 rfl
             obtain ⟨hp0, hp1⟩ := pn0 rfl
             obtain ⟨hr1, hwe, hwv⟩ := HR1.out rfl
             have hla := HLA.out
             rw [if_pos hwe] at hla
             have hlk := HLK.out
             rw [hla] at hlk
             have hwb := wV_bd HSD.out
             have hmx : f - wV s.sd <= a0 := by unfold mxI at hlk; split at hlk <;> omega
             have hge2 : ¬ pn + a0 < f := by omega
             have ewp : IntKind.i64.wrap (pn + a0) = pn + a0 := IntWalk.i64_in _ (by omega)
             clear pn0 qn7 qn0 hla hlk hmx hwe hwv hr1 hp0 hp1 hwb
             go_wp2_with fail
             refine ⟨⟨j + 1, by omega, rfl, HNE2.out⟩, ?_⟩
             simp [intOf]
             omega
         case neg =>
          obtain rfl : p.ns.length = j := by omega
          have hge : ¬ (p.ns.length : Int) < p.ns.length := by omega
          clear hlt hnr
          go_wp2_with fail
          refine (topHolds_any _).mono ?_
          rintro e wk ⟨rfl, hb⟩
          have HK := Lib.hid (newer_trans HNR2.out hb)
          clear hb
          go_wp2_with fail
          go_ret
          exact ⟨rfl, HK.out⟩
end

section
open Go.ChangeShapes Go.WideShapes Go.ChangeAt Go.RowKit Go.Deep
set_option maxRecDepth 100000 in
set_option maxHeartbeats 1000000 in
theorem topHeld_lifted (os : Os) (started : os.Started) (H : Type) (enc : TypeId × Value -> H) :
  ReturnsInHanded {} Try.checked os 3 .any (Rows.topHeldSpec.pre6 enc Try.prog Try.f3 Rows.topHeldRow.domain false) (Rows.topHeldSpec.post enc Try.prog Try.f3 false true false false) := by
 refine returnsInHanded_of_change (C := Try.checked) Try.own started (by kernel_rfl) Try.func3
  (ChangeSpec.witness6 (enc := enc) (C := Try.checked) false ⟨#[], #[.slice none 0 0, .agg #[.int .i64 0, .int .i64 0, .slice none 0 0, .slice none 0 0, .slice none 0 0, .slice none 0 0], .int .u16 0, .slice none 0 0, .slice none 0 0], []⟩ 8 (by kernel_rfl) (by kernel_rfl) (by kernel_rfl) (by kernel_rfl)) ?_
 intro W base args ds gs before hval0 hW hcnd _
 have hval : ∀ (j : Nat) t v, Try.f3.params[j]? = some t -> args[j]? = some v -> Value.okWide Try.prog W .any base t v := hval0
 have hW' := hW
 obtain ⟨p, q, hA0, hV, rfl, hfz, hnd⟩ := hW
 have hA : DataW.TrodAll enc Try.prog W 0 (fun _ => true) true Try.f3.params.toList args.toList ds p := hA0
 rw [Try.params3] at hA hval
 obtain ⟨v0, vs0, d0, ds0, p0, q0, hargs, rfl, rfl, h0, r0⟩ := trodAll_cons hA
 obtain ⟨v1, vs1, d1, ds1, p1, q1, rfl, rfl, rfl, h1, r1⟩ := trodAll_cons r0
 obtain ⟨v2, vs2, d2, ds2, p2, q2, rfl, rfl, rfl, h2, r2⟩ := trodAll_cons r1
 obtain ⟨v3, vs3, d3, ds3, p3, q3, rfl, rfl, rfl, h3, r3⟩ := trodAll_cons r2
 obtain ⟨v4, vs4, d4, ds4, p4, q4, rfl, rfl, rfl, h4, r4⟩ := trodAll_cons r3
 obtain ⟨rfl, rfl, rfl⟩ := trodAll_nil r4
 obtain rfl : args = #[v0, v1, v2, v3, v4] := by cases args; simp_all
 obtain ⟨rfl, rfl⟩ := trodVars_none hV
 obtain ⟨a0, len0, cap0, rfl⟩ := okWide_slice Try.underlying22 (hval 0 22 v0 rfl rfl)
 have k0 := h0
 have lt0 : ∀ x ∈ p0, x.block < W.heap.size := by obtain ⟨m, hm⟩ := k0; exact DataW.trod_lt m _ _ _ hm
 obtain ⟨D0, l0, dp0, e0, hl0, hrow0⟩ : ∃ (D : Option Addr) (l : List Sm) (dp : Nat), (Value.slice a0 len0 cap0).cells.toList = [.slice D l.length dp] /\ l.length <= maxLen /\ SsOk l D W := by
  obtain ⟨fuel, hf⟩ := h0
  exact slopes_open hf
 simp [Value.cells] at e0
 obtain ⟨rfl, rfl, rfl⟩ := e0
 obtain ⟨c1, rfl, hs1⟩ := okWide_struct Try.underlying28 (hval 1 28 v1 rfl rfl)
 have k1 := h1
 have lt1 : ∀ x ∈ p1, x.block < W.heap.size := by obtain ⟨m, hm⟩ := k1; exact DataW.trod_lt m _ _ _ hm
 obtain ⟨g1, e1, hrow1⟩ : ∃ p : Pm, c1.toList = (pmC p).toList /\ PmOk p W := by
  obtain ⟨fuel, hf⟩ := h1
  exact project_open hf
 obtain rfl : c1 = pmC g1 := Array.toList_inj.1 e1
 obtain ⟨a2, rfl, rfl, rfl, w2⟩ := open_int Try.underlying29 (hval 2 29 v2 rfl rfl) h2
 obtain ⟨a3, len3, cap3, rfl⟩ := okWide_slice Try.underlying30 (hval 3 30 v3 rfl rfl)
 have k3 := h3
 have lt3 : ∀ x ∈ p3, x.block < W.heap.size := by obtain ⟨m, hm⟩ := k3; exact DataW.trod_lt m _ _ _ hm
 obtain ⟨D3, l3, dp3, e3, hl3, hrow3⟩ : ∃ (D : Option Addr) (l : List Byt) (dp : Nat), (Value.slice a3 len3 cap3).cells.toList = [.slice D l.length dp] /\ l.length <= maxLen /\ Row byL 1 W W.heap.size D l := by
  obtain ⟨fuel, hf⟩ := h3
  exact bytes_open hf
 simp [Value.cells] at e3
 obtain ⟨rfl, rfl, rfl⟩ := e3
 obtain ⟨a4, len4, cap4, rfl⟩ := okWide_slice Try.underlying31 (hval 4 31 v4 rfl rfl)
 have k4 := h4
 have lt4 : ∀ x ∈ p4, x.block < W.heap.size := by obtain ⟨m, hm⟩ := k4; exact DataW.trod_lt m _ _ _ hm
 obtain ⟨D4, l4, dp4, e4, hl4, hrow4⟩ : ∃ (D : Option Addr) (l : List Hlf) (dp : Nat), (Value.slice a4 len4 cap4).cells.toList = [.slice D l.length dp] /\ l.length <= maxLen /\ Row hwL 1 W W.heap.size D l := by
  obtain ⟨fuel, hf⟩ := h4
  exact halves_open hf
 simp [Value.cells] at e4
 obtain ⟨rfl, rfl, rfl⟩ := e4
 have hb2 : 0 <= a2 /\ a2 <= 65535 := by
  have h := w2
  simp [Lit.wf] at h
  exact h
 obtain ⟨n2, rfl⟩ : ∃ n : Nat, a2 = n := ⟨a2.toNat, by omega⟩
 clear hA0 hval0
 refine (topHeld_walk l0 a0 cap0 g1 n2 l3 a3 cap3 l4 a4 cap4 W hrow0 hrow1 (by omega) hrow3 hrow4).mono fun e W' ⟨he, bel⟩ => ?_
 subst he
 exact ⟨_, rfl, _, _, _, [], _, [], hW', trodAll_mk1 (shut_bool Try.underlying4 _), (trodAll_cons_mk (Below.trod Try.laidOut (by kernel_rfl) (of_decide_eq_true (by kernel_rfl)) k0 bel lt0) (trodAll_cons_mk (Below.trod Try.laidOut (by kernel_rfl) (of_decide_eq_true (by kernel_rfl)) k1 bel lt1) (trodAll_cons_mk (shut_int Try.underlying29 w2) (trodAll_cons_mk (Below.trod Try.laidOut (by kernel_rfl) (of_decide_eq_true (by kernel_rfl)) k3 bel lt3) (trodAll_cons_mk (Below.trod Try.laidOut (by kernel_rfl) (of_decide_eq_true (by kernel_rfl)) k4 bel lt4) trodAll_mk0))))), rfl, bel.frame _, fun h => by cases h⟩
theorem topHeld_holds : Rows.TopHeldSaid :=
 OpenClaim.holds_of_wide 3 Try.f3 rfl rfl rfl rfl rfl rfl rfl ⟨rfl, rfl, rfl, rfl, rfl⟩ rfl rfl rfl rfl rfl (by kernel_rfl) Try.func3 (by kernel_rfl)
  (of_decide_eq_true (by kernel_rfl)) (by unfold Func.isWrapper; first | (rw [if_pos (by decide +kernel)]; kernel_rfl) | (rw [if_neg (by decide +kernel)]; exact ⟨rfl, rfl⟩))
  (fun os started H enc _ => topHeld_lifted os started H enc)
end

#print axioms topHeld_holds

end Go.Proofs.Ytcdhhfgpdokkoaa
