/- SlopeLeast returns true: the surface that Worst returns has the least factor, and none is lower; a table proves a factor only if none is lower; Proof returns one just for the factors up to the least one, or for all, if nothing drives. -/
import Derived.Test.YtkenokpobbichaaZL10
namespace Go.Proofs.Ytkenokpobbichaa
section
open Go.ChangeShapes Go.WideShapes Go.ChangeAt Go.RowKit Go.Deep
section
open Go.RowKit Go.Shelf Go.Deep
theorem path_wy {wd : Nat → Nat} {n : Nat} (hn : 1 ≤ n) : ∀ i, (pathL wd n i).length = i ∧ wayB n (pathL wd n i)
  | 0 => ⟨rfl, trivial⟩
  | i + 1 => by
    obtain ⟨h1, h2⟩ := path_wy (wd := wd) hn i
    rw [pathL]
    refine ⟨by rw [List.length_append, h1]; rfl, ?_⟩
    unfold stepP
    cases hl : (pathL wd n i).getLast? with
    | none =>
      rw [List.getLast?_eq_none_iff.1 hl]
      exact ⟨Nat.mod_lt _ (by omega), fun y hy => by simp at hy, trivial⟩
    | some p =>
      simp only
      have hp : p < n := way_all _ h2 p (List.mem_of_getLast? hl)
      obtain ⟨q, hq⟩ : ∃ q : Nat, q = wd (2 + i) % 3 := ⟨_, rfl⟩
      have hq2 : q ≤ 2 := by omega
      rw [← hq]
      refine way_snoc _ _ ?_ h2 fun y hy => ?_
      · unfold mnI mxI; split <;> split <;> omega
      · rw [hl] at hy
        injection hy with hy
        subst hy
        unfold mnI mxI; split <;> split <;> omega
theorem path_surf {s : Sm} {ws : List Byt} (hs : SdOk s.sd) (hle : s.sd.least ≤ (s.sd.cols.length : Int)) : SurfB s.sd.n s.cs.length s.sd.K (pathK (wdN ws) s.cs.length s.sd.K) (pathL (wdN ws) s.sd.n (pathM (wdN ws) s.cs.length s.sd.K)) := by
  have h1 := hs.cols
  have h2 := hs.least
  have h3 := hs.beds
  rw [sd_len] at h1 hle
  have hK : s.sd.K ≤ s.cs.length ∧ 1 ≤ s.sd.K := by unfold Sd.K; omega
  obtain ⟨e1, e2⟩ := path_wy (wd := wdN ws) h3.1 (pathM (wdN ws) s.cs.length s.sd.K)
  have h4 := Nat.mod_lt (wdN ws 0) (show 0 < s.cs.length - s.sd.K + 1 by omega)
  have h5 := Nat.mod_lt (wdN ws 1) (show 0 < s.cs.length - pathK (wdN ws) s.cs.length s.sd.K - s.sd.K + 1 by omega)
  refine ⟨?_, ?_, e2⟩
  · rw [e1]
    unfold pathM
    omega
  · rw [e1]
    unfold pathM
    have h6 : pathK (wdN ws) s.cs.length s.sd.K = wdN ws 0 % (s.cs.length - s.sd.K + 1) := rfl
    omega
set_option maxRecDepth 100000 in
set_option maxHeartbeats 4000000 in
theorem slopeLeast_walk (s : Sm) (ws : List Byt) (wa : Option Addr) (wc : Nat) (a2 : Int) (ts : List Rw) (A : Option Addr) (cA : Nat) (w : World) (h20 : 0 ≤ a2) (h21 : a2 ≤ 65535) (hok : SmOk s w) (hwr : Row byL 1 w w.heap.size wa ws) (htb : TbOk ts A w) : Calls Try.prog 14 #[smV s, .slice wa ws.length wc, .int .u16 a2, .slice A ts.length cA] w fun e w' => e = .returned (.bool true) ∧ newer w w' := by
  have hnw := newer_allocH w (.cells (smC s) 24)
  have hxb := Whole.made w 24 (smC s)
  have H1 := Lib.hid (And.intro (hnw) (hxb))
  clear hnw hxb
  have HOK := Lib.hid (And.intro hok (And.intro hwr htb))
  have HRD := Lib.hid (ready_any s _ (hok.next H1.out.1))
  obtain ⟨n2, rfl⟩ : ∃ n : Nat, a2 = n := ⟨a2.toNat, by omega⟩
  clear hok hwr htb
  have x0 := H1.out.2.at 0 (v := .slice s.a s.cs.length s.c) rfl
  have x1 := H1.out.2.at 1 (v := vi s.least) rfl
  cases hr : readyB s.sd with
  | false =>
    rw [hr] at HRD
    clear hr
    go_enter Try.func14, Try.ntmps14
    go_wp2_with fail
    refine (HRD.out).mono ?_
    rintro e w2 ⟨rfl, hb⟩
    have H3 := Lib.hid (And.intro ((newer_trans H1.out.1 hb)) ((H1.out.2.below hb H1.out.2.lt)))
    clear hb HRD H1 x0 x1
    go_wp2_with fail
    refine (wakes_any _).mono ?_
    rintro e w4 ⟨rfl, hb⟩
    have H5 := Lib.hid (And.intro ((newer_trans H3.out.1 hb)) ((H3.out.2.below hb H3.out.2.lt)))
    clear hb H3
    go_wp2_with fail
    go_ret
    exact ⟨rfl, H5.out.1⟩
  | true =>
    rw [hr] at HRD
    obtain ⟨hsd, few, hle⟩ := ready_ok hr
    have HFW := Lib.hid few
    have HSD := Lib.hid hsd
    clear hr
    obtain ⟨f, hf⟩ : ∃ f : Nat, f = n2 % 10001 := ⟨_, rfl⟩
    have hff : (n2 : Int) % 10001 = f := by omega
    have hf1 : f ≤ 10000 := by omega
    clear hf
    obtain ⟨F, hF⟩ : ∃ F : Int, F = (pathK (wdN ws) s.cs.length s.sd.K : Nat) := ⟨_, rfl⟩
    obtain ⟨L, hL⟩ : ∃ L : List Int, L = (pathL (wdN ws) s.sd.n (pathM (wdN ws) s.cs.length s.sd.K)).map (fun x : Nat => (x : Int)) := ⟨_, rfl⟩
    have HPQ : Hid (∀ W, newer w W → Calls Try.prog 40 #[smV s, .slice wa ws.length wc] W fun e w' => ∃ u : Su, e = .returned (suV u) ∧ SuOk u w' ∧ u.frm = F ∧ u.beds = L ∧ SurfB s.sd.n s.cs.length s.sd.K (pathK (wdN ws) s.cs.length s.sd.K) (pathL (wdN ws) s.sd.n (pathM (wdN ws) s.cs.length s.sd.K)) ∧ newer W w') := Lib.hid (fun W hW => by rw [hF, hL]; exact path_is s ws wa wc W (HOK.out.1.next hW) ((HOK.out.2.1.below hW).more hW.size) hsd hle)
    have hsf : SurfB s.sd.n s.cs.length s.sd.K (pathK (wdN ws) s.cs.length s.sd.K) (pathL (wdN ws) s.sd.n (pathM (wdN ws) s.cs.length s.sd.K)) := path_surf hsd hle
    have HPA : Hid (∀ W, newer w W → Calls Try.prog 40 #[smV s, .slice wa ws.length wc] W fun e w' => ∃ u : Su, e = .returned (suV u) ∧ SuOk u w' ∧ u.frm = F ∧ u.beds = L ∧ newer W w') := Lib.hid (fun W hW => (HPQ.out W hW).mono (by rintro e w' ⟨u, h1, h2, h3, h4, _, h5⟩; exact ⟨u, h1, h2, h3, h4, h5⟩))
    obtain ⟨_, e5, r0, r1, hk⟩ := surf_known HSD.out hF hL hsf
    have HUL : Hid (L.length ≤ 1000) := Lib.hid (by have h1 := hsf.2.1; have h2 := HSD.out.cols; rw [sd_len] at h2; rw [hL, List.length_map]; omega)
    have HSP : Hid (∀ (s2 : Sm) (u2 : Su) W, s2.sd = s.sd → SmOk s2 W → u2.frm = F → u2.beds = L → SuOk u2 W → Calls Try.prog 18 #[smV s2, suV u2] W fun e w' => e = .returned (.tuple #[.agg #[vi r0, vi r1], vi e5]) ∧ newer W w') := Lib.hid (fun s2 u2 W h1 h2 h3 h4 h5 => by
      have h6 := span_any s2 u2 W h2 (few_sd h1 HFW.out) h5 (by rw [h4]; exact HUL.out)
      rw [h1, h3, h4, spanV_is, hk.sp.1, hk.sp.2.1, hk.sp.2.2] at h6
      exact h6)
    have HSQ : Hid (∀ (u9 : Su) (s2 : Sm) W, s2.sd = s.sd → SmOk s2 W → SuOk u9 W → u9.beds.length ≤ 1000 → Calls Try.prog 18 #[smV s2, suV u9] W fun e w' => e = .returned (.tuple #[.agg #[vi (spanP s.sd u9.frm u9.beds false), vi (spanP s.sd u9.frm u9.beds true)], vi (spanE s.sd u9.frm u9.beds)]) ∧ newer W w') := Lib.hid (fun u9 s2 W h1 h2 h5 h7 => by
      have h6 := span_any s2 u9 W h2 (few_sd h1 HFW.out) h5 h7
      rw [h1, spanV_is] at h6
      exact h6)
    have hen := enough_w hsd (f := f) (by omega) (by omega)
    have h0 := wE_is s.sd
    have hlow := hk.low
    have heor := hk.eor
    have hpw := fun D => @prove_w s.sd f D
    obtain ⟨g, hg⟩ : ∃ g, g = enoughN s.sd f := ⟨_, rfl⟩
    obtain ⟨pb, hpb⟩ : ∃ p, p = provO s.sd f (ts.map Rw.d) := ⟨_, rfl⟩
    have hpv := hpw (ts.map Rw.d)
    rw [← hpb] at hpv
    rw [← hg] at hen
    have HTP : Hid (g = 0 → provO s.sd f (tabD s.sd f) = true) := Lib.hid (fun h => tab_prov (by rw [← hg, h]))
    have HWC := Lib.hid (fun W (hW : newer w W) => worst_chain s s.sd W (HOK.out.1.next hW) rfl hsd)
    have HPC := Lib.hid (fun W (hW : newer w W) => proof_chain s s.sd f g W (HOK.out.1.next hW) rfl hsd hg.symm)
    have HVC := Lib.hid (fun D p W (hW : newer w W) (hp : provO s.sd f D = p) => prove_chain s s.sd f D p W (HOK.out.1.next hW) rfl HFW.out hp)
    have HPB := Lib.hid hpb.symm
    obtain ⟨we, hwe⟩ : ∃ e, e = wE s.sd := ⟨_, rfl⟩
    obtain ⟨wv, hwv⟩ : ∃ v, v = wV s.sd := ⟨_, rfl⟩
    have HWS : Hid (∀ frm l, WorU s.sd frm l → l.length ≤ 1000 ∧ (we = 0 → spanE s.sd frm l = 0 ∧ spanP s.sd frm l false = wv)) := Lib.hid (fun frm l h => ⟨h.ln, by rw [hwe, hwv]; exact h.se⟩)
    rw [← hwe] at h0 hlow hen hpv HWC
    rw [← hwv] at hlow hen hpv HWC
    have HC := Lib.hid (And.intro hen (And.intro h0 (And.intro hlow (And.intro heor hpv))))
    clear hsd few hle hF hL hsf hk hen h0 hlow heor hpw hg hpb hpv hwe hwv HPQ
    go_enter Try.func14, Try.ntmps14
    by_cases h5 : ts.length ≤ 5
    case neg =>
      have h5I : ¬ ((ts.length : Int) ≤ 5) := by omega
      have h5J : (5 : Int) < ts.length := by omega
      clear HC HWC HPC HVC
      go_wp2_with fail
      refine (HRD.out).mono ?_
      rintro e w6 ⟨rfl, hb⟩
      have H7 := Lib.hid (And.intro ((newer_trans H1.out.1 hb)) ((H1.out.2.below hb H1.out.2.lt)))
      clear hb HRD H1 x0 x1
      go_wp2_with fail
      refine (wakes_any _).mono ?_
      rintro e w8 ⟨rfl, hb⟩
      have H9 := Lib.hid (And.intro ((newer_trans H7.out.1 hb)) ((H7.out.2.below hb H7.out.2.lt)))
      clear hb H7
      go_wp2_with fail
      go_ret
      exact ⟨rfl, H9.out.1⟩
    case pos =>
      have h5I : (ts.length : Int) ≤ 5 := by omega
      have h5J : ¬ ((5 : Int) < ts.length) := by omega
      go_wp2_with fail
      refine (HRD.out).mono ?_
      rintro e w10 ⟨rfl, hb⟩
      have H11 := Lib.hid (And.intro ((newer_trans H1.out.1 hb)) ((H1.out.2.below hb H1.out.2.lt)))
      clear hb HRD H1 x0 x1
      go_wp2_with fail
      have HTK := Lib.hid (HOK.out.2.2.next H11.out.1)
      go_loopw [9] (fun s9 wr => ∃ n : Nat, s9 = vi n ∧ n ≤ ts.length ∧ (∀ (i : Nat) (x : Rw), i < n → ts[i]? = some x → x.ls.length ≤ 15 ∧ ∀ y ∈ x.ls, y.l.length ≤ 8) ∧ w10 = wr) (fun s9 _ => ts.length - (intOf s9).toNat)
      case atStart => exact ⟨0, rfl, Nat.zero_le _, fun i x hi => absurd hi (Nat.not_lt_zero _), rfl⟩
      case round =>
        obtain ⟨n, rfl, hn, hrw, rfl⟩ := hrel
        by_cases hlt : n < ts.length
        case pos =>
          have hltI : (n : Int) < ts.length := by omega
          obtain ⟨x, hx⟩ := get_of_lt hlt
          obtain ⟨ba, bo, eA, _, cx⟩ := rowRw HTK.out.rows hx
          have hri := HTK.out.lss x (List.mem_of_getElem? hx)
          have HRX := Lib.hid (And.intro hx (And.intro hri (And.intro hrw eA)))
          clear hri hrw hx
          rw [eA]
          clear eA
          by_cases h15 : x.ls.length ≤ 15
          case neg =>
            have h15I : (15 : Int) < x.ls.length := by omega
            clear HC HWC HPC HVC
            go_wp2_with fail
            refine (wakes_any _).mono ?_
            rintro e w12 ⟨rfl, hb⟩
            have H13 := Lib.hid (And.intro ((newer_trans H11.out.1 hb)) ((H11.out.2.below hb H11.out.2.lt)))
            clear hb H11
            go_wp2_with fail
            go_ret
            exact ⟨rfl, H13.out.1⟩
          case pos =>
            have h15I : ¬ ((15 : Int) < x.ls.length) := by omega
            have h15J : (x.ls.length : Int) ≤ 15 := by omega
            go_wp2_with fail
            go_loopw [10] (fun s10 wr => ∃ k : Nat, s10 = vi k ∧ k ≤ x.ls.length ∧ (∀ (i : Nat) (y : Ln), i < k → x.ls[i]? = some y → y.l.length ≤ 8) ∧ w10 = wr) (fun s10 _ => x.ls.length - (intOf s10).toNat)
            case atStart => exact ⟨0, rfl, Nat.zero_le _, fun i x hi => absurd hi (Nat.not_lt_zero _), rfl⟩
            case round =>
              obtain ⟨k, rfl, hk, hls, rfl⟩ := hrel
              by_cases hltk : k < x.ls.length
              case pos =>
                have hltkI : (k : Int) < x.ls.length := by omega
                obtain ⟨y, hy⟩ := get_of_lt hltk
                obtain ⟨bl, lo_, eL, _, cy⟩ := rowLn HRX.out.2.1 hy
                have HY := Lib.hid (And.intro hy hls)
                clear hy hls
                rw [eL] at cx
                clear eL
                by_cases h8 : y.l.length ≤ 8
                case neg =>
                  have h8I : (8 : Int) < y.l.length := by omega
                  clear HC HWC HPC HVC
                  go_wp2_with fail
                  refine (wakes_any _).mono ?_
                  rintro e w14 ⟨rfl, hb⟩
                  have H15 := Lib.hid (And.intro ((newer_trans H11.out.1 hb)) ((H11.out.2.below hb H11.out.2.lt)))
                  clear hb H11
                  go_wp2_with fail
                  go_ret
                  exact ⟨rfl, H15.out.1⟩
                case pos =>
                  have h8I : ¬ ((8 : Int) < y.l.length) := by omega
                  go_wp2_with fail
                  refine ⟨⟨k + 1, by simp, by omega, fun i z hi hz => ?_, trivial⟩, ?_⟩
                  · by_cases hik : i = k
                    · subst hik
                      rw [HY.out.1] at hz
                      injection hz with hz
                      subst hz
                      exact h8
                    · exact HY.out.2 i z (by omega) hz
                  · simp [intOf]
                    omega
              case neg =>
                obtain rfl : k = x.ls.length := by omega
                have hltkI : ¬ ((x.ls.length : Int) < x.ls.length) := by omega
                go_wp2_with fail
                refine ⟨⟨n + 1, by simp, by omega, fun i z hi hz => ?_, trivial⟩, ?_⟩
                · by_cases hin : i = n
                  · subst hin
                    rw [HRX.out.1] at hz
                    injection hz with hz
                    subst hz
                    refine ⟨h15, fun y hy => ?_⟩
                    obtain ⟨j, hj⟩ := List.mem_iff_getElem?.1 hy
                    exact hls j y (List.getElem?_eq_some_iff.1 hj).1 hj
                  · exact HRX.out.2.2.1 i z (by omega) hz
                · simp [intOf]
                  omega
        case neg =>
          obtain rfl : n = ts.length := by omega
          have hltI : ¬ ((ts.length : Int) < ts.length) := by omega
          have HTF : Hid (TbFew ts) := Lib.hid ⟨by omega, fun x hx => by obtain ⟨j, hj⟩ := List.mem_iff_getElem?.1 hx; have := (hrw j x (List.getElem?_eq_some_iff.1 hj).1 hj).1; omega, fun x hx y hy => by obtain ⟨j, hj⟩ := List.mem_iff_getElem?.1 hx; have := (hrw j x (List.getElem?_eq_some_iff.1 hj).1 hj).2 y hy; omega⟩
          clear hrw hn hlt h5
          have x0 := H11.out.2.at 0 (v := .slice s.a s.cs.length s.c) rfl
          have x1 := H11.out.2.at 1 (v := vi s.least) rfl
          go_upto_region 14 with fail
          refine wp_words (by kernel_rfl) (region_late 12 11 (by kernel_rfl) (by kernel_rfl) (by decide) (by kernel_rfl) (fun W => Below w10.heap.size w10 W) (pickB [vIs (smV s), vSlo s.sd, vIs (smV s), vIs (.slice wa ws.length wc), vSuf F L, vSuf F L, vIs (.tuple #[.agg #[vi r0, vi r1], vi e5]), vIs (.tuple #[.agg #[vi r0, vi r1], vi e5]), vIs (.agg #[vi r0, vi r1]), vIs (vi e5), vNew w10.heap.size 31 #[vi 0, vi 0], (fun _ _ => True)] [(fun _ _ => True), (fun _ _ => True), (fun _ _ => True), (fun _ _ => True), (fun _ _ => True), (fun _ _ => True), (fun _ _ => True), vIs (.tuple #[.agg #[vi r0, vi r1], vi e5]), (fun _ _ => True), vIs (vi e5), vNew w10.heap.size 31 #[vi r0, vi r1], (fun _ _ => True)]) (pickB_stable ⟨vIs_st, vSlo_st, vIs_st, vIs_st, vSuf_st, vSuf_st, vIs_st, vIs_st, vIs_st, vIs_st, vNew_st, (fun _ _ _ h _ => h), trivial⟩ ⟨(fun _ _ _ h _ => h), (fun _ _ _ h _ => h), (fun _ _ _ h _ => h), (fun _ _ _ h _ => h), (fun _ _ _ h _ => h), (fun _ _ _ h _ => h), (fun _ _ _ h _ => h), vIs_st, (fun _ _ _ h _ => h), vIs_st, vNew_st, (fun _ _ _ h _ => h), trivial⟩) (Below.refl _ w10).drew ?_ ?_)
          · refine ⟨?_, ?_, ?_, ?_, ?_, ?_, ?_, ?_, ?_, ?_, ?_, ?_, trivial⟩
            · intro a W hG hO hp
              have h4 := hO.slot 4 (by kernel_rfl)
              have c0 := keep_cell x0 hG
              have c1 := keep_cell x1 hG
              refine wp_yields (v := smV s) ?_ ⟨_, rfl, rfl, Below.refl _ _, hG⟩
              simp [slotOf] at h4
              simp [execOp, go_sem, h4, c0, c1]
            · intro a W hG hO hp
              have h66 : slotOf a 66 = smV s := hp.1
              refine wp_enters (f := 19) (args := #[smV s]) ?_ ((lawSlope s W (HOK.out.1.next (newer_trans H11.out.1 hG)) HFW.out).mono ?_)
              · simp [slotOf] at h66
                simp [go_sem, h66]
              · rintro e w' ⟨s2, rfl, h1, h2, hb⟩
                exact ⟨_, rfl, _, rfl, ⟨s2, rfl, h1, h2⟩, hb, below_next hG hb⟩
            · intro a W hG hO hp
              have h4 := hO.slot 4 (by kernel_rfl)
              have c0 := keep_cell x0 hG
              have c1 := keep_cell x1 hG
              refine wp_yields (v := smV s) ?_ ⟨_, rfl, rfl, Below.refl _ _, hG⟩
              simp [slotOf] at h4
              simp [execOp, go_sem, h4, c0, c1]
            · intro a W hG hO hp
              have h1 := hO.slot 1 (by kernel_rfl)
              refine wp_yields (v := .slice wa ws.length wc) ?_ ⟨_, rfl, rfl, Below.refl _ _, hG⟩
              simp [slotOf] at h1
              simp [execOp, go_sem, h1]
            · intro a W hG hO hp
              have h68 : slotOf a 68 = smV s := hp.1
              have h69 : slotOf a 69 = .slice wa ws.length wc := hp.2.1
              refine wp_enters (f := 40) (args := #[smV s, .slice wa ws.length wc]) ?_ ((HPA.out W (newer_trans H11.out.1 hG)).mono ?_)
              · simp [slotOf] at h68 h69
                simp [go_sem, h68, h69]
              · rintro e w' ⟨u, rfl, h1, h2, h3, hb⟩
                exact ⟨_, rfl, _, rfl, ⟨u, rfl, h2, h3, h1⟩, hb, below_next hG hb⟩
            · intro a W hG hO hp
              have h70 := hp.1
              obtain ⟨u, h70, hf1, hl1, hu1⟩ := h70
              refine wp_enters (f := 20) (args := #[suV u]) ?_ ((lawSurface u W hu1 (by rw [hl1]; exact HUL.out)).mono ?_)
              · simp [slotOf] at h70
                simp [go_sem, h70]
              · rintro e w' ⟨u2, rfl, h1, h2, h3, hb⟩
                exact ⟨_, rfl, _, rfl, ⟨u2, rfl, h1.trans hf1, h2.trans hl1, h3⟩, hb, below_next hG hb⟩
            · intro a W hG hO hp
              have h67 := hp.1
              have h71 := hp.2.1
              obtain ⟨s2, h67, hd2, hs2⟩ := h67
              obtain ⟨u2, h71, hf2, hl2, hu2⟩ := h71
              have hsp := HSP.out s2 u2 W hd2 hs2 hf2 hl2 hu2
              refine wp_enters (f := 18) (args := #[smV s2, suV u2]) ?_ (hsp.mono ?_)
              · simp [slotOf] at h67 h71
                simp [go_sem, h67, h71]
              · rintro e w' ⟨rfl, hb⟩
                exact ⟨_, rfl, _, rfl, rfl, hb, below_next hG hb⟩
            · intro a W hG hO hp
              have h72 : slotOf a 72 = .tuple #[.agg #[vi r0, vi r1], vi e5] := hp.1
              refine wp_yields (v := .tuple #[.agg #[vi r0, vi r1], vi e5]) ?_ ⟨_, rfl, rfl, Below.refl _ _, hG⟩
              simp [slotOf] at h72
              simp [execOp, go_sem, h72]
            · intro a W hG hO hp
              have h65 : slotOf a 65 = .tuple #[.agg #[vi r0, vi r1], vi e5] := hp.1
              refine wp_yields (v := .agg #[vi r0, vi r1]) ?_ ⟨_, rfl, rfl, Below.refl _ _, hG⟩
              simp [slotOf] at h65
              simp [execOp, go_sem, h65]
            · intro b a W hG hO hp
              have h65 : slotOf a 65 = .tuple #[.agg #[vi r0, vi r1], vi e5] := by cases b <;> exact hp.1
              refine wp_yields (v := vi e5) ?_ ⟨_, rfl, (by cases b <;> rfl), Below.refl _ _, hG⟩
              simp [slotOf] at h65
              simp [execOp, go_sem, h65]
            · intro a W hG hO hp
              refine wp_makes (v := .pointer (some ⟨W.heap.size, 0, none⟩)) (W' := W.alloc (.cells #[vi 0, vi 0] 31)) ?_ ⟨_, rfl, ⟨_, rfl, hG.size, Whole.made _ _ _⟩, newer_allocH _ _, below_next hG (newer_allocH _ _)⟩
              skip
              simp [execOp, go_sem]
            · intro a W hG hO hp
              have h12 := hp.1
              have h73 : slotOf a 73 = .agg #[vi r0, vi r1] := hp.2.1
              obtain ⟨fb, h12, hfb, hwf⟩ := h12
              have b0 := hwf.at 0 rfl
              have b1 := hwf.at 1 rfl
              have f0 := hwf.free 0
              have f1 := hwf.free 1
              have hq := h12
              simp [slotOf] at h12 h73
              refine wp_storesE (W' := (W.setCell ⟨fb, 0, none⟩ (vi r0)).setCell ⟨fb, 1, none⟩ (vi r1)) (by simp [execOp, go_sem, h12, h73, b0, b1, f0, f1]) ⟨rfl, (hG.setCell (p := ⟨fb, 0, none⟩) hfb _).setCell (p := ⟨fb, 1, none⟩) hfb _, ?_⟩
              intro j oj d hj hoj hd hD
              match j, hoj, hD with
              | 0, _, _ => trivial
              | 1, _, _ => trivial
              | 2, _, _ => trivial
              | 3, _, _ => trivial
              | 4, _, _ => trivial
              | 5, _, _ => trivial
              | 6, _, _ => trivial
              | 7, _, hD =>
                exact hD
              | 8, _, _ => trivial
              | 9, _, hD =>
                exact hD
              | 10, hoj, _ =>
                obtain rfl := Option.some.inj hoj
                obtain rfl := Option.some.inj hd
                exact ⟨fb, hq, hfb, (hwf.set 0 _).set 1 _⟩
              | 11, _, _ => trivial
              | (_ + 12), _, _ => omega
          · intro wz14 hG
            rintro _ - _ - _ - _ - _ - _ - _ - _ - _ - _ rfl _ ⟨fb, rfl, hfb, hwf⟩
            change wpList _ _ _ _ _ _
            simp only [Act.put, List.setIfInBounds_toArray, List.set_cons_zero, List.set_cons_succ, List.drop_succ_cons, List.drop_zero]
            have H16 := Lib.hid (And.intro ((newer_trans H11.out.1 hG)) (And.intro ((H11.out.2.below hG H11.out.2.lt)) (hwf)))
            clear hG hfb hwf HPA HSP H11 x0 x1
            have x0 := H16.out.2.1.at 0 (v := .slice s.a s.cs.length s.c) rfl
            have x1 := H16.out.2.1.at 1 (v := vi s.least) rfl
            go_wp2_with fail
            refine (HWC.out _ H16.out.1).mono ?_
            rintro e w17 ⟨s4, rfl, hc4, hb⟩
            have HC4 := Lib.hid (hc4 _ (newer_refl _))
            clear hc4
            have H18 := Lib.hid (And.intro ((newer_trans H16.out.1 hb)) (And.intro ((H16.out.2.1.below hb H16.out.2.1.lt)) ((H16.out.2.2.below hb H16.out.2.2.lt))))
            clear hb HWC H16 x0 x1
            go_wp2_with fail
            refine (HC4.out).mono ?_
            rintro e w19 ⟨u9, rfl, hu9, hwu, hb⟩
            have HWU := Lib.hid (HWS.out _ _ hwu)
            clear hwu
            have H20 := Lib.hid (And.intro ((newer_trans H18.out.1 hb)) (And.intro ((H18.out.2.1.below hb H18.out.2.1.lt)) ((H18.out.2.2.below hb H18.out.2.2.lt))))
            clear hb HC4 H18
            have e6 := newer_allocH w19 (.cells #[vi u9.frm, .slice u9.a u9.beds.length u9.c] 39)
            have hub := Whole.made w19 39 #[vi u9.frm, .slice u9.a u9.beds.length u9.c]
            have H21 := Lib.hid (And.intro ((newer_trans H20.out.1 e6)) (And.intro ((H20.out.2.1.below e6 H20.out.2.1.lt)) (And.intro ((H20.out.2.2.below e6 H20.out.2.2.lt)) (And.intro (hub) (hu9.next e6)))))
            clear e6 hub hu9 H20
            have x0 := H21.out.2.1.at 0 (v := .slice s.a s.cs.length s.c) rfl
            have x1 := H21.out.2.1.at 1 (v := vi s.least) rfl
            go_wp2_with fail
            refine (HPC.out _ H21.out.1).mono ?_
            rintro e w22 ⟨s4, rfl, hc4, hb⟩
            have HC4 := Lib.hid (hc4 _ (newer_refl _))
            clear hc4
            have H23 := Lib.hid (And.intro ((newer_trans H21.out.1 hb)) (And.intro ((H21.out.2.1.below hb H21.out.2.1.lt)) (And.intro ((H21.out.2.2.1.below hb H21.out.2.2.1.lt)) (And.intro ((H21.out.2.2.2.1.below hb H21.out.2.2.2.1.lt)) ((H21.out.2.2.2.2.next hb))))))
            clear hb HPC H21 x0 x1
            go_wp2_with fail
            refine (HC4.out).mono ?_
            rintro e w24 ⟨xs, XA, Xc, rfl, hx1, hx2, hx3, _, hb⟩
            have HX := Lib.hid (And.intro hx2 hx3)
            clear hx2 hx3
            have H25 := Lib.hid (And.intro ((newer_trans H23.out.1 hb)) (And.intro ((H23.out.2.1.below hb H23.out.2.1.lt)) (And.intro ((H23.out.2.2.1.below hb H23.out.2.2.1.lt)) (And.intro ((H23.out.2.2.2.1.below hb H23.out.2.2.2.1.lt)) (And.intro ((H23.out.2.2.2.2.next hb)) (hx1))))))
            clear hb HC4 hx1 H23
            obtain ⟨hen, h0, hlow, heor, hpv⟩ := HC.out
            rcases h0 with rfl | rfl
            · obtain ⟨hw1, hw2⟩ := HWU.out
              obtain ⟨hw3, hw4⟩ := hw2 rfl
              clear hw2
              obtain ⟨o1, ho1⟩ : ∃ o, o = spanP s.sd u9.frm u9.beds true := ⟨_, rfl⟩
              have HSO : Hid (∀ (s2 : Sm) W, s2.sd = s.sd → SmOk s2 W → newer w24 W → Calls Try.prog 18 #[smV s2, suV u9] W fun e w' => e = .returned (.tuple #[.agg #[vi wv, vi o1], vi 0]) ∧ newer W w') := Lib.hid (fun s2 W h1 h2 hW => by
                have h6 := HSQ.out u9 s2 W h1 h2 (H25.out.2.2.2.2.1.next hW) hw1
                rw [hw3, hw4, ← ho1] at h6
                exact h6)
              clear hw1 hw3 hw4 ho1 HSQ
              have hcase : (e5 = 7 ∨ (e5 = 0 ∧ ¬ r0 < wv)) := by rcases heor with h | h; exact .inl h; exact .inr ⟨h, by have := (hlow h).2; omega⟩
              clear hlow heor
              have hcg : (g = 10 ∧ ¬ (f : Int) ≤ wv ∧ wv < (f : Int) ∧ pb = false) ∨ (g = 0 ∧ (f : Int) ≤ wv ∧ ¬ wv < (f : Int)) := by
                rcases hen with ⟨h1, _, h3⟩ | ⟨h1, h3⟩
                · refine .inl ⟨h1, by omega, h3, ?_⟩
                  cases pb with
                  | false => rfl
                  | true => have := hpv rfl rfl; omega
                · have := h3 rfl
                  exact .inr ⟨h1, by omega, by omega⟩
              clear hen hpv
              have x0 := H25.out.2.1.at 0 (v := .slice s.a s.cs.length s.c) rfl
              have x1 := H25.out.2.1.at 1 (v := vi s.least) rfl
              have q0 := H25.out.2.2.1.at 0 (v := vi r0) rfl
              have q1 := H25.out.2.2.1.at 1 (v := vi r1) rfl
              have y0 := H25.out.2.2.2.1.at 0 (v := vi u9.frm) rfl
              have y1 := H25.out.2.2.2.1.at 1 (v := .slice u9.a u9.beds.length u9.c) rfl
              rcases hcg with ⟨rfl, hg1, hg2, rfl⟩ | ⟨rfl, hg1, hg2⟩
              · rcases hcase with rfl | ⟨rfl, hr0⟩
                · go_upto_region 20 with fail
                  refine wp_words (by kernel_rfl) (region_late 9 8 (by kernel_rfl) (by kernel_rfl) (by decide) (by kernel_rfl) (fun W => Below w24.heap.size w24 W) (pickB [vIs (smV s), vSlo s.sd, vIs (suV u9), vIs (.tuple #[.agg #[vi wv, vi o1], vi 0]), vIs (.tuple #[.agg #[vi wv, vi o1], vi 0]), vIs (.agg #[vi wv, vi o1]), vIs (vi 0), vNew w24.heap.size 31 #[vi 0, vi 0], (fun _ _ => True)] [(fun _ _ => True), (fun _ _ => True), (fun _ _ => True), (fun _ _ => True), vIs (.tuple #[.agg #[vi wv, vi o1], vi 0]), (fun _ _ => True), vIs (vi 0), vNew w24.heap.size 31 #[vi wv, vi o1], (fun _ _ => True)]) (pickB_stable ⟨vIs_st, vSlo_st, vIs_st, vIs_st, vIs_st, vIs_st, vIs_st, vNew_st, (fun _ _ _ h _ => h), trivial⟩ ⟨(fun _ _ _ h _ => h), (fun _ _ _ h _ => h), (fun _ _ _ h _ => h), (fun _ _ _ h _ => h), vIs_st, (fun _ _ _ h _ => h), vIs_st, vNew_st, (fun _ _ _ h _ => h), trivial⟩) (Below.refl _ w24).drew ?_ ?_)
                  · refine ⟨?_, ?_, ?_, ?_, ?_, ?_, ?_, ?_, ?_, trivial⟩
                    · intro a W hG hO hp
                      have h4 := hO.slot 4 (by kernel_rfl)
                      have c0 := keep_cell x0 hG
                      have c1 := keep_cell x1 hG
                      refine wp_yields (v := smV s) ?_ ⟨_, rfl, rfl, Below.refl _ _, hG⟩
                      simp [slotOf] at h4
                      simp [execOp, go_sem, h4, c0, c1]
                    · intro a W hG hO hp
                      have h120 : slotOf a 120 = smV s := hp.1
                      refine wp_enters (f := 19) (args := #[smV s]) ?_ ((lawSlope s W (HOK.out.1.next (newer_trans H25.out.1 hG)) HFW.out).mono ?_)
                      · simp [slotOf] at h120
                        simp [go_sem, h120]
                      · rintro e w' ⟨s2, rfl, h1, h2, hb⟩
                        exact ⟨_, rfl, _, rfl, ⟨s2, rfl, h1, h2⟩, hb, below_next hG hb⟩
                    · intro a W hG hO hp
                      have h14 := hO.slot 14 (by kernel_rfl)
                      have c0 := keep_cell y0 hG
                      have c1 := keep_cell y1 hG
                      refine wp_yields (v := suV u9) ?_ ⟨_, rfl, rfl, Below.refl _ _, hG⟩
                      simp [slotOf] at h14
                      simp [execOp, go_sem, h14, c0, c1]
                    · intro a W hG hO hp
                      have h121 := hp.1
                      have h122 : slotOf a 122 = suV u9 := hp.2.1
                      obtain ⟨s2, h121, hd2, hs2⟩ := h121
                      have hsp := HSO.out s2 W hd2 hs2 hG
                      refine wp_enters (f := 18) (args := #[smV s2, suV u9]) ?_ (hsp.mono ?_)
                      · simp [slotOf] at h121 h122
                        simp [go_sem, h121, h122]
                      · rintro e w' ⟨rfl, hb⟩
                        exact ⟨_, rfl, _, rfl, rfl, hb, below_next hG hb⟩
                    · intro a W hG hO hp
                      have h123 : slotOf a 123 = .tuple #[.agg #[vi wv, vi o1], vi 0] := hp.1
                      refine wp_yields (v := .tuple #[.agg #[vi wv, vi o1], vi 0]) ?_ ⟨_, rfl, rfl, Below.refl _ _, hG⟩
                      simp [slotOf] at h123
                      simp [execOp, go_sem, h123]
                    · intro a W hG hO hp
                      have h119 : slotOf a 119 = .tuple #[.agg #[vi wv, vi o1], vi 0] := hp.1
                      refine wp_yields (v := .agg #[vi wv, vi o1]) ?_ ⟨_, rfl, rfl, Below.refl _ _, hG⟩
                      simp [slotOf] at h119
                      simp [execOp, go_sem, h119]
                    · intro b a W hG hO hp
                      have h119 : slotOf a 119 = .tuple #[.agg #[vi wv, vi o1], vi 0] := by cases b <;> exact hp.1
                      refine wp_yields (v := vi 0) ?_ ⟨_, rfl, (by cases b <;> rfl), Below.refl _ _, hG⟩
                      simp [slotOf] at h119
                      simp [execOp, go_sem, h119]
                    · intro a W hG hO hp
                      refine wp_makes (v := .pointer (some ⟨W.heap.size, 0, none⟩)) (W' := W.alloc (.cells #[vi 0, vi 0] 31)) ?_ ⟨_, rfl, ⟨_, rfl, hG.size, Whole.made _ _ _⟩, newer_allocH _ _, below_next hG (newer_allocH _ _)⟩
                      skip
                      simp [execOp, go_sem]
                    · intro a W hG hO hp
                      have h19 := hp.1
                      have h124 : slotOf a 124 = .agg #[vi wv, vi o1] := hp.2.1
                      obtain ⟨ob, h19, hfb, hwf⟩ := h19
                      have b0 := hwf.at 0 rfl
                      have b1 := hwf.at 1 rfl
                      have f0 := hwf.free 0
                      have f1 := hwf.free 1
                      have hq := h19
                      simp [slotOf] at h19 h124
                      refine wp_storesE (W' := (W.setCell ⟨ob, 0, none⟩ (vi wv)).setCell ⟨ob, 1, none⟩ (vi o1)) (by simp [execOp, go_sem, h19, h124, b0, b1, f0, f1]) ⟨rfl, (hG.setCell (p := ⟨ob, 0, none⟩) hfb _).setCell (p := ⟨ob, 1, none⟩) hfb _, ?_⟩
                      intro j oj d hj hoj hd hD
                      match j, hoj, hD with
                      | 0, _, _ => trivial
                      | 1, _, _ => trivial
                      | 2, _, _ => trivial
                      | 3, _, _ => trivial
                      | 4, _, hD =>
                        exact hD
                      | 5, _, _ => trivial
                      | 6, _, hD =>
                        exact hD
                      | 7, hoj, _ =>
                        obtain rfl := Option.some.inj hoj
                        obtain rfl := Option.some.inj hd
                        exact ⟨ob, hq, hfb, (hwf.set 0 _).set 1 _⟩
                      | 8, _, _ => trivial
                      | (_ + 9), _, _ => omega
                  · intro wz20 hG
                    rintro _ - _ - _ - _ - _ - _ - _ rfl _ ⟨ob, rfl, hfb, hwf⟩
                    change wpList _ _ _ _ _ _
                    simp only [Act.put, List.setIfInBounds_toArray, List.set_cons_zero, List.set_cons_succ, List.drop_succ_cons, List.drop_zero]
                    have H26 := Lib.hid (And.intro ((newer_trans H25.out.1 hG)) (And.intro ((H25.out.2.1.below hG H25.out.2.1.lt)) (And.intro ((H25.out.2.2.1.below hG H25.out.2.2.1.lt)) (And.intro ((H25.out.2.2.2.1.below hG H25.out.2.2.2.1.lt)) (And.intro ((H25.out.2.2.2.2.1.next hG)) (And.intro ((H25.out.2.2.2.2.2.next hG)) (hwf)))))))
                    clear hG hfb hwf HSO H25 x0 x1 q0 q1 y0 y1
                    have x0 := H26.out.2.1.at 0 (v := .slice s.a s.cs.length s.c) rfl
                    have x1 := H26.out.2.1.at 1 (v := vi s.least) rfl
                    have z0 := H26.out.2.2.2.2.2.2.at 0 (v := vi wv) rfl
                    have z1 := H26.out.2.2.2.2.2.2.at 1 (v := vi o1) rfl
                    go_wp2_with fail
                    refine (HVC.out (ts.map Rw.d) false _ H26.out.1 HPB.out).mono ?_
                    rintro e w27 ⟨s4, rfl, hc4, hb⟩
                    have HC4 := Lib.hid hc4
                    clear hc4
                    have H28 := Lib.hid (And.intro ((newer_trans H26.out.1 hb)) (And.intro ((H26.out.2.1.below hb H26.out.2.1.lt)) (And.intro ((H26.out.2.2.1.below hb H26.out.2.2.1.lt)) (And.intro ((H26.out.2.2.2.1.below hb H26.out.2.2.2.1.lt)) (And.intro ((H26.out.2.2.2.2.1.next hb)) (And.intro ((H26.out.2.2.2.2.2.1.next hb)) ((H26.out.2.2.2.2.2.2.below hb H26.out.2.2.2.2.2.2.lt))))))))
                    clear hb H26 x0 x1 z0 z1
                    go_wp2_with fail
                    refine (table_any ts A cA _ (HOK.out.2.2.next H28.out.1) HTF.out).mono ?_
                    rintro e w29 ⟨t2, A9, c9, rfl, ht1, ht2, hb⟩
                    have HC5 := Lib.hid (HC4.out t2 A9 c9 _ hb ht2.ok (few_map ht1 HTF.out) ht1)
                    clear ht1 ht2
                    have H30 := Lib.hid (And.intro ((newer_trans H28.out.1 hb)) (And.intro ((H28.out.2.1.below hb H28.out.2.1.lt)) (And.intro ((H28.out.2.2.1.below hb H28.out.2.2.1.lt)) (And.intro ((H28.out.2.2.2.1.below hb H28.out.2.2.2.1.lt)) (And.intro ((H28.out.2.2.2.2.1.next hb)) (And.intro ((H28.out.2.2.2.2.2.1.next hb)) ((H28.out.2.2.2.2.2.2.below hb H28.out.2.2.2.2.2.2.lt))))))))
                    clear hb HC4 H28
                    go_wp2_with fail
                    refine (HC5.out).mono ?_
                    rintro e w31 ⟨rfl, hb⟩
                    have H32 := Lib.hid (And.intro ((newer_trans H30.out.1 hb)) (And.intro ((H30.out.2.1.below hb H30.out.2.1.lt)) (And.intro ((H30.out.2.2.1.below hb H30.out.2.2.1.lt)) (And.intro ((H30.out.2.2.2.1.below hb H30.out.2.2.2.1.lt)) (And.intro ((H30.out.2.2.2.2.1.next hb)) (And.intro ((H30.out.2.2.2.2.2.1.next hb)) ((H30.out.2.2.2.2.2.2.below hb H30.out.2.2.2.2.2.2.lt))))))))
                    clear hb HC5 H30
                    have x0 := H32.out.2.1.at 0 (v := .slice s.a s.cs.length s.c) rfl
                    have x1 := H32.out.2.1.at 1 (v := vi s.least) rfl
                    go_wp2_with fail
                    refine (wakes_any _).mono ?_
                    rintro e w33 ⟨rfl, hb⟩
                    have H34 := Lib.hid (And.intro ((newer_trans H32.out.1 hb)) (And.intro ((H32.out.2.1.below hb H32.out.2.1.lt)) (And.intro ((H32.out.2.2.1.below hb H32.out.2.2.1.lt)) (And.intro ((H32.out.2.2.2.1.below hb H32.out.2.2.2.1.lt)) (And.intro ((H32.out.2.2.2.2.1.next hb)) (And.intro ((H32.out.2.2.2.2.2.1.next hb)) ((H32.out.2.2.2.2.2.2.below hb H32.out.2.2.2.2.2.2.lt))))))))
                    clear hb H32 x0 x1
                    go_wp2_with fail
                    go_ret
                    exact ⟨rfl, H34.out.1⟩
                · go_upto_region 20 with fail
                  refine wp_words (by kernel_rfl) (region_late 9 8 (by kernel_rfl) (by kernel_rfl) (by decide) (by kernel_rfl) (fun W => Below w24.heap.size w24 W) (pickB [vIs (smV s), vSlo s.sd, vIs (suV u9), vIs (.tuple #[.agg #[vi wv, vi o1], vi 0]), vIs (.tuple #[.agg #[vi wv, vi o1], vi 0]), vIs (.agg #[vi wv, vi o1]), vIs (vi 0), vNew w24.heap.size 31 #[vi 0, vi 0], (fun _ _ => True)] [(fun _ _ => True), (fun _ _ => True), (fun _ _ => True), (fun _ _ => True), vIs (.tuple #[.agg #[vi wv, vi o1], vi 0]), (fun _ _ => True), vIs (vi 0), vNew w24.heap.size 31 #[vi wv, vi o1], (fun _ _ => True)]) (pickB_stable ⟨vIs_st, vSlo_st, vIs_st, vIs_st, vIs_st, vIs_st, vIs_st, vNew_st, (fun _ _ _ h _ => h), trivial⟩ ⟨(fun _ _ _ h _ => h), (fun _ _ _ h _ => h), (fun _ _ _ h _ => h), (fun _ _ _ h _ => h), vIs_st, (fun _ _ _ h _ => h), vIs_st, vNew_st, (fun _ _ _ h _ => h), trivial⟩) (Below.refl _ w24).drew ?_ ?_)
                  · refine ⟨?_, ?_, ?_, ?_, ?_, ?_, ?_, ?_, ?_, trivial⟩
                    · intro a W hG hO hp
                      have h4 := hO.slot 4 (by kernel_rfl)
                      have c0 := keep_cell x0 hG
                      have c1 := keep_cell x1 hG
                      refine wp_yields (v := smV s) ?_ ⟨_, rfl, rfl, Below.refl _ _, hG⟩
                      simp [slotOf] at h4
                      simp [execOp, go_sem, h4, c0, c1]
                    · intro a W hG hO hp
                      have h120 : slotOf a 120 = smV s := hp.1
                      refine wp_enters (f := 19) (args := #[smV s]) ?_ ((lawSlope s W (HOK.out.1.next (newer_trans H25.out.1 hG)) HFW.out).mono ?_)
                      · simp [slotOf] at h120
                        simp [go_sem, h120]
                      · rintro e w' ⟨s2, rfl, h1, h2, hb⟩
                        exact ⟨_, rfl, _, rfl, ⟨s2, rfl, h1, h2⟩, hb, below_next hG hb⟩
                    · intro a W hG hO hp
                      have h14 := hO.slot 14 (by kernel_rfl)
                      have c0 := keep_cell y0 hG
                      have c1 := keep_cell y1 hG
                      refine wp_yields (v := suV u9) ?_ ⟨_, rfl, rfl, Below.refl _ _, hG⟩
                      simp [slotOf] at h14
                      simp [execOp, go_sem, h14, c0, c1]
                    · intro a W hG hO hp
                      have h121 := hp.1
                      have h122 : slotOf a 122 = suV u9 := hp.2.1
                      obtain ⟨s2, h121, hd2, hs2⟩ := h121
                      have hsp := HSO.out s2 W hd2 hs2 hG
                      refine wp_enters (f := 18) (args := #[smV s2, suV u9]) ?_ (hsp.mono ?_)
                      · simp [slotOf] at h121 h122
                        simp [go_sem, h121, h122]
                      · rintro e w' ⟨rfl, hb⟩
                        exact ⟨_, rfl, _, rfl, rfl, hb, below_next hG hb⟩
                    · intro a W hG hO hp
                      have h123 : slotOf a 123 = .tuple #[.agg #[vi wv, vi o1], vi 0] := hp.1
                      refine wp_yields (v := .tuple #[.agg #[vi wv, vi o1], vi 0]) ?_ ⟨_, rfl, rfl, Below.refl _ _, hG⟩
                      simp [slotOf] at h123
                      simp [execOp, go_sem, h123]
                    · intro a W hG hO hp
                      have h119 : slotOf a 119 = .tuple #[.agg #[vi wv, vi o1], vi 0] := hp.1
                      refine wp_yields (v := .agg #[vi wv, vi o1]) ?_ ⟨_, rfl, rfl, Below.refl _ _, hG⟩
                      simp [slotOf] at h119
                      simp [execOp, go_sem, h119]
                    · intro b a W hG hO hp
                      have h119 : slotOf a 119 = .tuple #[.agg #[vi wv, vi o1], vi 0] := by cases b <;> exact hp.1
                      refine wp_yields (v := vi 0) ?_ ⟨_, rfl, (by cases b <;> rfl), Below.refl _ _, hG⟩
                      simp [slotOf] at h119
                      simp [execOp, go_sem, h119]
                    · intro a W hG hO hp
                      refine wp_makes (v := .pointer (some ⟨W.heap.size, 0, none⟩)) (W' := W.alloc (.cells #[vi 0, vi 0] 31)) ?_ ⟨_, rfl, ⟨_, rfl, hG.size, Whole.made _ _ _⟩, newer_allocH _ _, below_next hG (newer_allocH _ _)⟩
                      skip
                      simp [execOp, go_sem]
                    · intro a W hG hO hp
                      have h19 := hp.1
                      have h124 : slotOf a 124 = .agg #[vi wv, vi o1] := hp.2.1
                      obtain ⟨ob, h19, hfb, hwf⟩ := h19
                      have b0 := hwf.at 0 rfl
                      have b1 := hwf.at 1 rfl
                      have f0 := hwf.free 0
                      have f1 := hwf.free 1
                      have hq := h19
                      simp [slotOf] at h19 h124
                      refine wp_storesE (W' := (W.setCell ⟨ob, 0, none⟩ (vi wv)).setCell ⟨ob, 1, none⟩ (vi o1)) (by simp [execOp, go_sem, h19, h124, b0, b1, f0, f1]) ⟨rfl, (hG.setCell (p := ⟨ob, 0, none⟩) hfb _).setCell (p := ⟨ob, 1, none⟩) hfb _, ?_⟩
                      intro j oj d hj hoj hd hD
                      match j, hoj, hD with
                      | 0, _, _ => trivial
                      | 1, _, _ => trivial
                      | 2, _, _ => trivial
                      | 3, _, _ => trivial
                      | 4, _, hD =>
                        exact hD
                      | 5, _, _ => trivial
                      | 6, _, hD =>
                        exact hD
                      | 7, hoj, _ =>
                        obtain rfl := Option.some.inj hoj
                        obtain rfl := Option.some.inj hd
                        exact ⟨ob, hq, hfb, (hwf.set 0 _).set 1 _⟩
                      | 8, _, _ => trivial
                      | (_ + 9), _, _ => omega
                  · intro wz20 hG
                    rintro _ - _ - _ - _ - _ - _ - _ rfl _ ⟨ob, rfl, hfb, hwf⟩
                    change wpList _ _ _ _ _ _
                    simp only [Act.put, List.setIfInBounds_toArray, List.set_cons_zero, List.set_cons_succ, List.drop_succ_cons, List.drop_zero]
                    have H35 := Lib.hid (And.intro ((newer_trans H25.out.1 hG)) (And.intro ((H25.out.2.1.below hG H25.out.2.1.lt)) (And.intro ((H25.out.2.2.1.below hG H25.out.2.2.1.lt)) (And.intro ((H25.out.2.2.2.1.below hG H25.out.2.2.2.1.lt)) (And.intro ((H25.out.2.2.2.2.1.next hG)) (And.intro ((H25.out.2.2.2.2.2.next hG)) (hwf)))))))
                    clear hG hfb hwf HSO H25 x0 x1 q0 q1 y0 y1
                    have x0 := H35.out.2.1.at 0 (v := .slice s.a s.cs.length s.c) rfl
                    have x1 := H35.out.2.1.at 1 (v := vi s.least) rfl
                    have z0 := H35.out.2.2.2.2.2.2.at 0 (v := vi wv) rfl
                    have z1 := H35.out.2.2.2.2.2.2.at 1 (v := vi o1) rfl
                    go_wp2_with fail
                    refine (HVC.out (ts.map Rw.d) false _ H35.out.1 HPB.out).mono ?_
                    rintro e w36 ⟨s4, rfl, hc4, hb⟩
                    have HC4 := Lib.hid hc4
                    clear hc4
                    have H37 := Lib.hid (And.intro ((newer_trans H35.out.1 hb)) (And.intro ((H35.out.2.1.below hb H35.out.2.1.lt)) (And.intro ((H35.out.2.2.1.below hb H35.out.2.2.1.lt)) (And.intro ((H35.out.2.2.2.1.below hb H35.out.2.2.2.1.lt)) (And.intro ((H35.out.2.2.2.2.1.next hb)) (And.intro ((H35.out.2.2.2.2.2.1.next hb)) ((H35.out.2.2.2.2.2.2.below hb H35.out.2.2.2.2.2.2.lt))))))))
                    clear hb H35 x0 x1 z0 z1
                    go_wp2_with fail
                    refine (table_any ts A cA _ (HOK.out.2.2.next H37.out.1) HTF.out).mono ?_
                    rintro e w38 ⟨t2, A9, c9, rfl, ht1, ht2, hb⟩
                    have HC5 := Lib.hid (HC4.out t2 A9 c9 _ hb ht2.ok (few_map ht1 HTF.out) ht1)
                    clear ht1 ht2
                    have H39 := Lib.hid (And.intro ((newer_trans H37.out.1 hb)) (And.intro ((H37.out.2.1.below hb H37.out.2.1.lt)) (And.intro ((H37.out.2.2.1.below hb H37.out.2.2.1.lt)) (And.intro ((H37.out.2.2.2.1.below hb H37.out.2.2.2.1.lt)) (And.intro ((H37.out.2.2.2.2.1.next hb)) (And.intro ((H37.out.2.2.2.2.2.1.next hb)) ((H37.out.2.2.2.2.2.2.below hb H37.out.2.2.2.2.2.2.lt))))))))
                    clear hb HC4 H37
                    go_wp2_with fail
                    refine (HC5.out).mono ?_
                    rintro e w40 ⟨rfl, hb⟩
                    have H41 := Lib.hid (And.intro ((newer_trans H39.out.1 hb)) (And.intro ((H39.out.2.1.below hb H39.out.2.1.lt)) (And.intro ((H39.out.2.2.1.below hb H39.out.2.2.1.lt)) (And.intro ((H39.out.2.2.2.1.below hb H39.out.2.2.2.1.lt)) (And.intro ((H39.out.2.2.2.2.1.next hb)) (And.intro ((H39.out.2.2.2.2.2.1.next hb)) ((H39.out.2.2.2.2.2.2.below hb H39.out.2.2.2.2.2.2.lt))))))))
                    clear hb HC5 H39
                    have x0 := H41.out.2.1.at 0 (v := .slice s.a s.cs.length s.c) rfl
                    have x1 := H41.out.2.1.at 1 (v := vi s.least) rfl
                    go_wp2_with fail
                    refine (wakes_any _).mono ?_
                    rintro e w42 ⟨rfl, hb⟩
                    have H43 := Lib.hid (And.intro ((newer_trans H41.out.1 hb)) (And.intro ((H41.out.2.1.below hb H41.out.2.1.lt)) (And.intro ((H41.out.2.2.1.below hb H41.out.2.2.1.lt)) (And.intro ((H41.out.2.2.2.1.below hb H41.out.2.2.2.1.lt)) (And.intro ((H41.out.2.2.2.2.1.next hb)) (And.intro ((H41.out.2.2.2.2.2.1.next hb)) ((H41.out.2.2.2.2.2.2.below hb H41.out.2.2.2.2.2.2.lt))))))))
                    clear hb H41 x0 x1
                    go_wp2_with fail
                    go_ret
                    exact ⟨rfl, H43.out.1⟩
              · rcases hcase with rfl | ⟨rfl, hr0⟩
                · go_upto_region 20 with fail
                  refine wp_words (by kernel_rfl) (region_late 9 8 (by kernel_rfl) (by kernel_rfl) (by decide) (by kernel_rfl) (fun W => Below w24.heap.size w24 W) (pickB [vIs (smV s), vSlo s.sd, vIs (suV u9), vIs (.tuple #[.agg #[vi wv, vi o1], vi 0]), vIs (.tuple #[.agg #[vi wv, vi o1], vi 0]), vIs (.agg #[vi wv, vi o1]), vIs (vi 0), vNew w24.heap.size 31 #[vi 0, vi 0], (fun _ _ => True)] [(fun _ _ => True), (fun _ _ => True), (fun _ _ => True), (fun _ _ => True), vIs (.tuple #[.agg #[vi wv, vi o1], vi 0]), (fun _ _ => True), vIs (vi 0), vNew w24.heap.size 31 #[vi wv, vi o1], (fun _ _ => True)]) (pickB_stable ⟨vIs_st, vSlo_st, vIs_st, vIs_st, vIs_st, vIs_st, vIs_st, vNew_st, (fun _ _ _ h _ => h), trivial⟩ ⟨(fun _ _ _ h _ => h), (fun _ _ _ h _ => h), (fun _ _ _ h _ => h), (fun _ _ _ h _ => h), vIs_st, (fun _ _ _ h _ => h), vIs_st, vNew_st, (fun _ _ _ h _ => h), trivial⟩) (Below.refl _ w24).drew ?_ ?_)
                  · refine ⟨?_, ?_, ?_, ?_, ?_, ?_, ?_, ?_, ?_, trivial⟩
                    · intro a W hG hO hp
                      have h4 := hO.slot 4 (by kernel_rfl)
                      have c0 := keep_cell x0 hG
                      have c1 := keep_cell x1 hG
                      refine wp_yields (v := smV s) ?_ ⟨_, rfl, rfl, Below.refl _ _, hG⟩
                      simp [slotOf] at h4
                      simp [execOp, go_sem, h4, c0, c1]
                    · intro a W hG hO hp
                      have h120 : slotOf a 120 = smV s := hp.1
                      refine wp_enters (f := 19) (args := #[smV s]) ?_ ((lawSlope s W (HOK.out.1.next (newer_trans H25.out.1 hG)) HFW.out).mono ?_)
                      · simp [slotOf] at h120
                        simp [go_sem, h120]
                      · rintro e w' ⟨s2, rfl, h1, h2, hb⟩
                        exact ⟨_, rfl, _, rfl, ⟨s2, rfl, h1, h2⟩, hb, below_next hG hb⟩
                    · intro a W hG hO hp
                      have h14 := hO.slot 14 (by kernel_rfl)
                      have c0 := keep_cell y0 hG
                      have c1 := keep_cell y1 hG
                      refine wp_yields (v := suV u9) ?_ ⟨_, rfl, rfl, Below.refl _ _, hG⟩
                      simp [slotOf] at h14
                      simp [execOp, go_sem, h14, c0, c1]
                    · intro a W hG hO hp
                      have h121 := hp.1
                      have h122 : slotOf a 122 = suV u9 := hp.2.1
                      obtain ⟨s2, h121, hd2, hs2⟩ := h121
                      have hsp := HSO.out s2 W hd2 hs2 hG
                      refine wp_enters (f := 18) (args := #[smV s2, suV u9]) ?_ (hsp.mono ?_)
                      · simp [slotOf] at h121 h122
                        simp [go_sem, h121, h122]
                      · rintro e w' ⟨rfl, hb⟩
                        exact ⟨_, rfl, _, rfl, rfl, hb, below_next hG hb⟩
                    · intro a W hG hO hp
                      have h123 : slotOf a 123 = .tuple #[.agg #[vi wv, vi o1], vi 0] := hp.1
                      refine wp_yields (v := .tuple #[.agg #[vi wv, vi o1], vi 0]) ?_ ⟨_, rfl, rfl, Below.refl _ _, hG⟩
                      simp [slotOf] at h123
                      simp [execOp, go_sem, h123]
                    · intro a W hG hO hp
                      have h119 : slotOf a 119 = .tuple #[.agg #[vi wv, vi o1], vi 0] := hp.1
                      refine wp_yields (v := .agg #[vi wv, vi o1]) ?_ ⟨_, rfl, rfl, Below.refl _ _, hG⟩
                      simp [slotOf] at h119
                      simp [execOp, go_sem, h119]
                    · intro b a W hG hO hp
                      have h119 : slotOf a 119 = .tuple #[.agg #[vi wv, vi o1], vi 0] := by cases b <;> exact hp.1
                      refine wp_yields (v := vi 0) ?_ ⟨_, rfl, (by cases b <;> rfl), Below.refl _ _, hG⟩
                      simp [slotOf] at h119
                      simp [execOp, go_sem, h119]
                    · intro a W hG hO hp
                      refine wp_makes (v := .pointer (some ⟨W.heap.size, 0, none⟩)) (W' := W.alloc (.cells #[vi 0, vi 0] 31)) ?_ ⟨_, rfl, ⟨_, rfl, hG.size, Whole.made _ _ _⟩, newer_allocH _ _, below_next hG (newer_allocH _ _)⟩
                      skip
                      simp [execOp, go_sem]
                    · intro a W hG hO hp
                      have h19 := hp.1
                      have h124 : slotOf a 124 = .agg #[vi wv, vi o1] := hp.2.1
                      obtain ⟨ob, h19, hfb, hwf⟩ := h19
                      have b0 := hwf.at 0 rfl
                      have b1 := hwf.at 1 rfl
                      have f0 := hwf.free 0
                      have f1 := hwf.free 1
                      have hq := h19
                      simp [slotOf] at h19 h124
                      refine wp_storesE (W' := (W.setCell ⟨ob, 0, none⟩ (vi wv)).setCell ⟨ob, 1, none⟩ (vi o1)) (by simp [execOp, go_sem, h19, h124, b0, b1, f0, f1]) ⟨rfl, (hG.setCell (p := ⟨ob, 0, none⟩) hfb _).setCell (p := ⟨ob, 1, none⟩) hfb _, ?_⟩
                      intro j oj d hj hoj hd hD
                      match j, hoj, hD with
                      | 0, _, _ => trivial
                      | 1, _, _ => trivial
                      | 2, _, _ => trivial
                      | 3, _, _ => trivial
                      | 4, _, hD =>
                        exact hD
                      | 5, _, _ => trivial
                      | 6, _, hD =>
                        exact hD
                      | 7, hoj, _ =>
                        obtain rfl := Option.some.inj hoj
                        obtain rfl := Option.some.inj hd
                        exact ⟨ob, hq, hfb, (hwf.set 0 _).set 1 _⟩
                      | 8, _, _ => trivial
                      | (_ + 9), _, _ => omega
                  · intro wz20 hG
                    rintro _ - _ - _ - _ - _ - _ - _ rfl _ ⟨ob, rfl, hfb, hwf⟩
                    change wpList _ _ _ _ _ _
                    simp only [Act.put, List.setIfInBounds_toArray, List.set_cons_zero, List.set_cons_succ, List.drop_succ_cons, List.drop_zero]
                    have H44 := Lib.hid (And.intro ((newer_trans H25.out.1 hG)) (And.intro ((H25.out.2.1.below hG H25.out.2.1.lt)) (And.intro ((H25.out.2.2.1.below hG H25.out.2.2.1.lt)) (And.intro ((H25.out.2.2.2.1.below hG H25.out.2.2.2.1.lt)) (And.intro ((H25.out.2.2.2.2.1.next hG)) (And.intro ((H25.out.2.2.2.2.2.next hG)) (hwf)))))))
                    clear hG hfb hwf HSO H25 x0 x1 q0 q1 y0 y1
                    have x0 := H44.out.2.1.at 0 (v := .slice s.a s.cs.length s.c) rfl
                    have x1 := H44.out.2.1.at 1 (v := vi s.least) rfl
                    have z0 := H44.out.2.2.2.2.2.2.at 0 (v := vi wv) rfl
                    have z1 := H44.out.2.2.2.2.2.2.at 1 (v := vi o1) rfl
                    cases pb with
                    | false =>
                      go_wp2_with fail
                      refine (HVC.out (ts.map Rw.d) false _ H44.out.1 HPB.out).mono ?_
                      rintro e w45 ⟨s4, rfl, hc4, hb⟩
                      have HC4 := Lib.hid hc4
                      clear hc4
                      have H46 := Lib.hid (And.intro ((newer_trans H44.out.1 hb)) (And.intro ((H44.out.2.1.below hb H44.out.2.1.lt)) (And.intro ((H44.out.2.2.1.below hb H44.out.2.2.1.lt)) (And.intro ((H44.out.2.2.2.1.below hb H44.out.2.2.2.1.lt)) (And.intro ((H44.out.2.2.2.2.1.next hb)) (And.intro ((H44.out.2.2.2.2.2.1.next hb)) ((H44.out.2.2.2.2.2.2.below hb H44.out.2.2.2.2.2.2.lt))))))))
                      clear hb H44 x0 x1 z0 z1
                      go_wp2_with fail
                      refine (table_any ts A cA _ (HOK.out.2.2.next H46.out.1) HTF.out).mono ?_
                      rintro e w47 ⟨t2, A9, c9, rfl, ht1, ht2, hb⟩
                      have HC5 := Lib.hid (HC4.out t2 A9 c9 _ hb ht2.ok (few_map ht1 HTF.out) ht1)
                      clear ht1 ht2
                      have H48 := Lib.hid (And.intro ((newer_trans H46.out.1 hb)) (And.intro ((H46.out.2.1.below hb H46.out.2.1.lt)) (And.intro ((H46.out.2.2.1.below hb H46.out.2.2.1.lt)) (And.intro ((H46.out.2.2.2.1.below hb H46.out.2.2.2.1.lt)) (And.intro ((H46.out.2.2.2.2.1.next hb)) (And.intro ((H46.out.2.2.2.2.2.1.next hb)) ((H46.out.2.2.2.2.2.2.below hb H46.out.2.2.2.2.2.2.lt))))))))
                      clear hb HC4 H46
                      go_wp2_with fail
                      refine (HC5.out).mono ?_
                      rintro e w49 ⟨rfl, hb⟩
                      have H50 := Lib.hid (And.intro ((newer_trans H48.out.1 hb)) (And.intro ((H48.out.2.1.below hb H48.out.2.1.lt)) (And.intro ((H48.out.2.2.1.below hb H48.out.2.2.1.lt)) (And.intro ((H48.out.2.2.2.1.below hb H48.out.2.2.2.1.lt)) (And.intro ((H48.out.2.2.2.2.1.next hb)) (And.intro ((H48.out.2.2.2.2.2.1.next hb)) ((H48.out.2.2.2.2.2.2.below hb H48.out.2.2.2.2.2.2.lt))))))))
                      clear hb HC5 H48
                      have x0 := H50.out.2.1.at 0 (v := .slice s.a s.cs.length s.c) rfl
                      have x1 := H50.out.2.1.at 1 (v := vi s.least) rfl
                      go_wp2_with fail
                      refine (HVC.out (tabD s.sd f) true _ H50.out.1 (HTP.out trivial)).mono ?_
                      rintro e w51 ⟨s4, rfl, hc4, hb⟩
                      have HC4 := Lib.hid (fun W hW => hc4 xs XA Xc W hW)
                      clear hc4
                      have H52 := Lib.hid (And.intro ((newer_trans H50.out.1 hb)) (And.intro ((H50.out.2.1.below hb H50.out.2.1.lt)) (And.intro ((H50.out.2.2.1.below hb H50.out.2.2.1.lt)) (And.intro ((H50.out.2.2.2.1.below hb H50.out.2.2.2.1.lt)) (And.intro ((H50.out.2.2.2.2.1.next hb)) (And.intro ((H50.out.2.2.2.2.2.1.next hb)) ((H50.out.2.2.2.2.2.2.below hb H50.out.2.2.2.2.2.2.lt))))))))
                      clear hb H50 x0 x1
                      go_wp2_with fail
                      refine (HC4.out _ (newer_refl _) H52.out.2.2.2.2.2.1 HX.out.1 (HX.out.2 trivial)).mono ?_
                      rintro e w53 ⟨rfl, hb⟩
                      have H54 := Lib.hid (And.intro ((newer_trans H52.out.1 hb)) (And.intro ((H52.out.2.1.below hb H52.out.2.1.lt)) (And.intro ((H52.out.2.2.1.below hb H52.out.2.2.1.lt)) (And.intro ((H52.out.2.2.2.1.below hb H52.out.2.2.2.1.lt)) (And.intro ((H52.out.2.2.2.2.1.next hb)) (And.intro ((H52.out.2.2.2.2.2.1.next hb)) ((H52.out.2.2.2.2.2.2.below hb H52.out.2.2.2.2.2.2.lt))))))))
                      clear hb HC4 H52
                      go_wp2_with fail
                      refine (wakes_any _).mono ?_
                      rintro e w55 ⟨rfl, hb⟩
                      have H56 := Lib.hid (And.intro ((newer_trans H54.out.1 hb)) (And.intro ((H54.out.2.1.below hb H54.out.2.1.lt)) (And.intro ((H54.out.2.2.1.below hb H54.out.2.2.1.lt)) (And.intro ((H54.out.2.2.2.1.below hb H54.out.2.2.2.1.lt)) (And.intro ((H54.out.2.2.2.2.1.next hb)) (And.intro ((H54.out.2.2.2.2.2.1.next hb)) ((H54.out.2.2.2.2.2.2.below hb H54.out.2.2.2.2.2.2.lt))))))))
                      clear hb H54
                      go_wp2_with fail
                      go_ret
                      exact ⟨rfl, H56.out.1⟩
                    | true =>
                      go_wp2_with fail
                      refine (HVC.out (ts.map Rw.d) true _ H44.out.1 HPB.out).mono ?_
                      rintro e w57 ⟨s4, rfl, hc4, hb⟩
                      have HC4 := Lib.hid hc4
                      clear hc4
                      have H58 := Lib.hid (And.intro ((newer_trans H44.out.1 hb)) (And.intro ((H44.out.2.1.below hb H44.out.2.1.lt)) (And.intro ((H44.out.2.2.1.below hb H44.out.2.2.1.lt)) (And.intro ((H44.out.2.2.2.1.below hb H44.out.2.2.2.1.lt)) (And.intro ((H44.out.2.2.2.2.1.next hb)) (And.intro ((H44.out.2.2.2.2.2.1.next hb)) ((H44.out.2.2.2.2.2.2.below hb H44.out.2.2.2.2.2.2.lt))))))))
                      clear hb H44 x0 x1 z0 z1
                      go_wp2_with fail
                      refine (table_any ts A cA _ (HOK.out.2.2.next H58.out.1) HTF.out).mono ?_
                      rintro e w59 ⟨t2, A9, c9, rfl, ht1, ht2, hb⟩
                      have HC5 := Lib.hid (HC4.out t2 A9 c9 _ hb ht2.ok (few_map ht1 HTF.out) ht1)
                      clear ht1 ht2
                      have H60 := Lib.hid (And.intro ((newer_trans H58.out.1 hb)) (And.intro ((H58.out.2.1.below hb H58.out.2.1.lt)) (And.intro ((H58.out.2.2.1.below hb H58.out.2.2.1.lt)) (And.intro ((H58.out.2.2.2.1.below hb H58.out.2.2.2.1.lt)) (And.intro ((H58.out.2.2.2.2.1.next hb)) (And.intro ((H58.out.2.2.2.2.2.1.next hb)) ((H58.out.2.2.2.2.2.2.below hb H58.out.2.2.2.2.2.2.lt))))))))
                      clear hb HC4 H58
                      go_wp2_with fail
                      refine (HC5.out).mono ?_
                      rintro e w61 ⟨rfl, hb⟩
                      have H62 := Lib.hid (And.intro ((newer_trans H60.out.1 hb)) (And.intro ((H60.out.2.1.below hb H60.out.2.1.lt)) (And.intro ((H60.out.2.2.1.below hb H60.out.2.2.1.lt)) (And.intro ((H60.out.2.2.2.1.below hb H60.out.2.2.2.1.lt)) (And.intro ((H60.out.2.2.2.2.1.next hb)) (And.intro ((H60.out.2.2.2.2.2.1.next hb)) ((H60.out.2.2.2.2.2.2.below hb H60.out.2.2.2.2.2.2.lt))))))))
                      clear hb HC5 H60
                      have x0 := H62.out.2.1.at 0 (v := .slice s.a s.cs.length s.c) rfl
                      have x1 := H62.out.2.1.at 1 (v := vi s.least) rfl
                      go_wp2_with fail
                      refine (HVC.out (tabD s.sd f) true _ H62.out.1 (HTP.out trivial)).mono ?_
                      rintro e w63 ⟨s4, rfl, hc4, hb⟩
                      have HC4 := Lib.hid (fun W hW => hc4 xs XA Xc W hW)
                      clear hc4
                      have H64 := Lib.hid (And.intro ((newer_trans H62.out.1 hb)) (And.intro ((H62.out.2.1.below hb H62.out.2.1.lt)) (And.intro ((H62.out.2.2.1.below hb H62.out.2.2.1.lt)) (And.intro ((H62.out.2.2.2.1.below hb H62.out.2.2.2.1.lt)) (And.intro ((H62.out.2.2.2.2.1.next hb)) (And.intro ((H62.out.2.2.2.2.2.1.next hb)) ((H62.out.2.2.2.2.2.2.below hb H62.out.2.2.2.2.2.2.lt))))))))
                      clear hb H62 x0 x1
                      go_wp2_with fail
                      refine (HC4.out _ (newer_refl _) H64.out.2.2.2.2.2.1 HX.out.1 (HX.out.2 trivial)).mono ?_
                      rintro e w65 ⟨rfl, hb⟩
                      have H66 := Lib.hid (And.intro ((newer_trans H64.out.1 hb)) (And.intro ((H64.out.2.1.below hb H64.out.2.1.lt)) (And.intro ((H64.out.2.2.1.below hb H64.out.2.2.1.lt)) (And.intro ((H64.out.2.2.2.1.below hb H64.out.2.2.2.1.lt)) (And.intro ((H64.out.2.2.2.2.1.next hb)) (And.intro ((H64.out.2.2.2.2.2.1.next hb)) ((H64.out.2.2.2.2.2.2.below hb H64.out.2.2.2.2.2.2.lt))))))))
                      clear hb HC4 H64
                      go_wp2_with fail
                      refine (wakes_any _).mono ?_
                      rintro e w67 ⟨rfl, hb⟩
                      have H68 := Lib.hid (And.intro ((newer_trans H66.out.1 hb)) (And.intro ((H66.out.2.1.below hb H66.out.2.1.lt)) (And.intro ((H66.out.2.2.1.below hb H66.out.2.2.1.lt)) (And.intro ((H66.out.2.2.2.1.below hb H66.out.2.2.2.1.lt)) (And.intro ((H66.out.2.2.2.2.1.next hb)) (And.intro ((H66.out.2.2.2.2.2.1.next hb)) ((H66.out.2.2.2.2.2.2.below hb H66.out.2.2.2.2.2.2.lt))))))))
                      clear hb H66
                      go_wp2_with fail
                      go_ret
                      exact ⟨rfl, H68.out.1⟩
                · go_upto_region 20 with fail
                  refine wp_words (by kernel_rfl) (region_late 9 8 (by kernel_rfl) (by kernel_rfl) (by decide) (by kernel_rfl) (fun W => Below w24.heap.size w24 W) (pickB [vIs (smV s), vSlo s.sd, vIs (suV u9), vIs (.tuple #[.agg #[vi wv, vi o1], vi 0]), vIs (.tuple #[.agg #[vi wv, vi o1], vi 0]), vIs (.agg #[vi wv, vi o1]), vIs (vi 0), vNew w24.heap.size 31 #[vi 0, vi 0], (fun _ _ => True)] [(fun _ _ => True), (fun _ _ => True), (fun _ _ => True), (fun _ _ => True), vIs (.tuple #[.agg #[vi wv, vi o1], vi 0]), (fun _ _ => True), vIs (vi 0), vNew w24.heap.size 31 #[vi wv, vi o1], (fun _ _ => True)]) (pickB_stable ⟨vIs_st, vSlo_st, vIs_st, vIs_st, vIs_st, vIs_st, vIs_st, vNew_st, (fun _ _ _ h _ => h), trivial⟩ ⟨(fun _ _ _ h _ => h), (fun _ _ _ h _ => h), (fun _ _ _ h _ => h), (fun _ _ _ h _ => h), vIs_st, (fun _ _ _ h _ => h), vIs_st, vNew_st, (fun _ _ _ h _ => h), trivial⟩) (Below.refl _ w24).drew ?_ ?_)
                  · refine ⟨?_, ?_, ?_, ?_, ?_, ?_, ?_, ?_, ?_, trivial⟩
                    · intro a W hG hO hp
                      have h4 := hO.slot 4 (by kernel_rfl)
                      have c0 := keep_cell x0 hG
                      have c1 := keep_cell x1 hG
                      refine wp_yields (v := smV s) ?_ ⟨_, rfl, rfl, Below.refl _ _, hG⟩
                      simp [slotOf] at h4
                      simp [execOp, go_sem, h4, c0, c1]
                    · intro a W hG hO hp
                      have h120 : slotOf a 120 = smV s := hp.1
                      refine wp_enters (f := 19) (args := #[smV s]) ?_ ((lawSlope s W (HOK.out.1.next (newer_trans H25.out.1 hG)) HFW.out).mono ?_)
                      · simp [slotOf] at h120
                        simp [go_sem, h120]
                      · rintro e w' ⟨s2, rfl, h1, h2, hb⟩
                        exact ⟨_, rfl, _, rfl, ⟨s2, rfl, h1, h2⟩, hb, below_next hG hb⟩
                    · intro a W hG hO hp
                      have h14 := hO.slot 14 (by kernel_rfl)
                      have c0 := keep_cell y0 hG
                      have c1 := keep_cell y1 hG
                      refine wp_yields (v := suV u9) ?_ ⟨_, rfl, rfl, Below.refl _ _, hG⟩
                      simp [slotOf] at h14
                      simp [execOp, go_sem, h14, c0, c1]
                    · intro a W hG hO hp
                      have h121 := hp.1
                      have h122 : slotOf a 122 = suV u9 := hp.2.1
                      obtain ⟨s2, h121, hd2, hs2⟩ := h121
                      have hsp := HSO.out s2 W hd2 hs2 hG
                      refine wp_enters (f := 18) (args := #[smV s2, suV u9]) ?_ (hsp.mono ?_)
                      · simp [slotOf] at h121 h122
                        simp [go_sem, h121, h122]
                      · rintro e w' ⟨rfl, hb⟩
                        exact ⟨_, rfl, _, rfl, rfl, hb, below_next hG hb⟩
                    · intro a W hG hO hp
                      have h123 : slotOf a 123 = .tuple #[.agg #[vi wv, vi o1], vi 0] := hp.1
                      refine wp_yields (v := .tuple #[.agg #[vi wv, vi o1], vi 0]) ?_ ⟨_, rfl, rfl, Below.refl _ _, hG⟩
                      simp [slotOf] at h123
                      simp [execOp, go_sem, h123]
                    · intro a W hG hO hp
                      have h119 : slotOf a 119 = .tuple #[.agg #[vi wv, vi o1], vi 0] := hp.1
                      refine wp_yields (v := .agg #[vi wv, vi o1]) ?_ ⟨_, rfl, rfl, Below.refl _ _, hG⟩
                      simp [slotOf] at h119
                      simp [execOp, go_sem, h119]
                    · intro b a W hG hO hp
                      have h119 : slotOf a 119 = .tuple #[.agg #[vi wv, vi o1], vi 0] := by cases b <;> exact hp.1
                      refine wp_yields (v := vi 0) ?_ ⟨_, rfl, (by cases b <;> rfl), Below.refl _ _, hG⟩
                      simp [slotOf] at h119
                      simp [execOp, go_sem, h119]
                    · intro a W hG hO hp
                      refine wp_makes (v := .pointer (some ⟨W.heap.size, 0, none⟩)) (W' := W.alloc (.cells #[vi 0, vi 0] 31)) ?_ ⟨_, rfl, ⟨_, rfl, hG.size, Whole.made _ _ _⟩, newer_allocH _ _, below_next hG (newer_allocH _ _)⟩
                      skip
                      simp [execOp, go_sem]
                    · intro a W hG hO hp
                      have h19 := hp.1
                      have h124 : slotOf a 124 = .agg #[vi wv, vi o1] := hp.2.1
                      obtain ⟨ob, h19, hfb, hwf⟩ := h19
                      have b0 := hwf.at 0 rfl
                      have b1 := hwf.at 1 rfl
                      have f0 := hwf.free 0
                      have f1 := hwf.free 1
                      have hq := h19
                      simp [slotOf] at h19 h124
                      refine wp_storesE (W' := (W.setCell ⟨ob, 0, none⟩ (vi wv)).setCell ⟨ob, 1, none⟩ (vi o1)) (by simp [execOp, go_sem, h19, h124, b0, b1, f0, f1]) ⟨rfl, (hG.setCell (p := ⟨ob, 0, none⟩) hfb _).setCell (p := ⟨ob, 1, none⟩) hfb _, ?_⟩
                      intro j oj d hj hoj hd hD
                      match j, hoj, hD with
                      | 0, _, _ => trivial
                      | 1, _, _ => trivial
                      | 2, _, _ => trivial
                      | 3, _, _ => trivial
                      | 4, _, hD =>
                        exact hD
                      | 5, _, _ => trivial
                      | 6, _, hD =>
                        exact hD
                      | 7, hoj, _ =>
                        obtain rfl := Option.some.inj hoj
                        obtain rfl := Option.some.inj hd
                        exact ⟨ob, hq, hfb, (hwf.set 0 _).set 1 _⟩
                      | 8, _, _ => trivial
                      | (_ + 9), _, _ => omega
                  · intro wz20 hG
                    rintro _ - _ - _ - _ - _ - _ - _ rfl _ ⟨ob, rfl, hfb, hwf⟩
                    change wpList _ _ _ _ _ _
                    simp only [Act.put, List.setIfInBounds_toArray, List.set_cons_zero, List.set_cons_succ, List.drop_succ_cons, List.drop_zero]
                    have H69 := Lib.hid (And.intro ((newer_trans H25.out.1 hG)) (And.intro ((H25.out.2.1.below hG H25.out.2.1.lt)) (And.intro ((H25.out.2.2.1.below hG H25.out.2.2.1.lt)) (And.intro ((H25.out.2.2.2.1.below hG H25.out.2.2.2.1.lt)) (And.intro ((H25.out.2.2.2.2.1.next hG)) (And.intro ((H25.out.2.2.2.2.2.next hG)) (hwf)))))))
                    clear hG hfb hwf HSO H25 x0 x1 q0 q1 y0 y1
                    have x0 := H69.out.2.1.at 0 (v := .slice s.a s.cs.length s.c) rfl
                    have x1 := H69.out.2.1.at 1 (v := vi s.least) rfl
                    have z0 := H69.out.2.2.2.2.2.2.at 0 (v := vi wv) rfl
                    have z1 := H69.out.2.2.2.2.2.2.at 1 (v := vi o1) rfl
                    cases pb with
                    | false =>
                      go_wp2_with fail
                      refine (HVC.out (ts.map Rw.d) false _ H69.out.1 HPB.out).mono ?_
                      rintro e w70 ⟨s4, rfl, hc4, hb⟩
                      have HC4 := Lib.hid hc4
                      clear hc4
                      have H71 := Lib.hid (And.intro ((newer_trans H69.out.1 hb)) (And.intro ((H69.out.2.1.below hb H69.out.2.1.lt)) (And.intro ((H69.out.2.2.1.below hb H69.out.2.2.1.lt)) (And.intro ((H69.out.2.2.2.1.below hb H69.out.2.2.2.1.lt)) (And.intro ((H69.out.2.2.2.2.1.next hb)) (And.intro ((H69.out.2.2.2.2.2.1.next hb)) ((H69.out.2.2.2.2.2.2.below hb H69.out.2.2.2.2.2.2.lt))))))))
                      clear hb H69 x0 x1 z0 z1
                      go_wp2_with fail
                      refine (table_any ts A cA _ (HOK.out.2.2.next H71.out.1) HTF.out).mono ?_
                      rintro e w72 ⟨t2, A9, c9, rfl, ht1, ht2, hb⟩
                      have HC5 := Lib.hid (HC4.out t2 A9 c9 _ hb ht2.ok (few_map ht1 HTF.out) ht1)
                      clear ht1 ht2
                      have H73 := Lib.hid (And.intro ((newer_trans H71.out.1 hb)) (And.intro ((H71.out.2.1.below hb H71.out.2.1.lt)) (And.intro ((H71.out.2.2.1.below hb H71.out.2.2.1.lt)) (And.intro ((H71.out.2.2.2.1.below hb H71.out.2.2.2.1.lt)) (And.intro ((H71.out.2.2.2.2.1.next hb)) (And.intro ((H71.out.2.2.2.2.2.1.next hb)) ((H71.out.2.2.2.2.2.2.below hb H71.out.2.2.2.2.2.2.lt))))))))
                      clear hb HC4 H71
                      go_wp2_with fail
                      refine (HC5.out).mono ?_
                      rintro e w74 ⟨rfl, hb⟩
                      have H75 := Lib.hid (And.intro ((newer_trans H73.out.1 hb)) (And.intro ((H73.out.2.1.below hb H73.out.2.1.lt)) (And.intro ((H73.out.2.2.1.below hb H73.out.2.2.1.lt)) (And.intro ((H73.out.2.2.2.1.below hb H73.out.2.2.2.1.lt)) (And.intro ((H73.out.2.2.2.2.1.next hb)) (And.intro ((H73.out.2.2.2.2.2.1.next hb)) ((H73.out.2.2.2.2.2.2.below hb H73.out.2.2.2.2.2.2.lt))))))))
                      clear hb HC5 H73
                      have x0 := H75.out.2.1.at 0 (v := .slice s.a s.cs.length s.c) rfl
                      have x1 := H75.out.2.1.at 1 (v := vi s.least) rfl
                      go_wp2_with fail
                      refine (HVC.out (tabD s.sd f) true _ H75.out.1 (HTP.out trivial)).mono ?_
                      rintro e w76 ⟨s4, rfl, hc4, hb⟩
                      have HC4 := Lib.hid (fun W hW => hc4 xs XA Xc W hW)
                      clear hc4
                      have H77 := Lib.hid (And.intro ((newer_trans H75.out.1 hb)) (And.intro ((H75.out.2.1.below hb H75.out.2.1.lt)) (And.intro ((H75.out.2.2.1.below hb H75.out.2.2.1.lt)) (And.intro ((H75.out.2.2.2.1.below hb H75.out.2.2.2.1.lt)) (And.intro ((H75.out.2.2.2.2.1.next hb)) (And.intro ((H75.out.2.2.2.2.2.1.next hb)) ((H75.out.2.2.2.2.2.2.below hb H75.out.2.2.2.2.2.2.lt))))))))
                      clear hb H75 x0 x1
                      go_wp2_with fail
                      refine (HC4.out _ (newer_refl _) H77.out.2.2.2.2.2.1 HX.out.1 (HX.out.2 trivial)).mono ?_
                      rintro e w78 ⟨rfl, hb⟩
                      have H79 := Lib.hid (And.intro ((newer_trans H77.out.1 hb)) (And.intro ((H77.out.2.1.below hb H77.out.2.1.lt)) (And.intro ((H77.out.2.2.1.below hb H77.out.2.2.1.lt)) (And.intro ((H77.out.2.2.2.1.below hb H77.out.2.2.2.1.lt)) (And.intro ((H77.out.2.2.2.2.1.next hb)) (And.intro ((H77.out.2.2.2.2.2.1.next hb)) ((H77.out.2.2.2.2.2.2.below hb H77.out.2.2.2.2.2.2.lt))))))))
                      clear hb HC4 H77
                      go_wp2_with fail
                      refine (wakes_any _).mono ?_
                      rintro e w80 ⟨rfl, hb⟩
                      have H81 := Lib.hid (And.intro ((newer_trans H79.out.1 hb)) (And.intro ((H79.out.2.1.below hb H79.out.2.1.lt)) (And.intro ((H79.out.2.2.1.below hb H79.out.2.2.1.lt)) (And.intro ((H79.out.2.2.2.1.below hb H79.out.2.2.2.1.lt)) (And.intro ((H79.out.2.2.2.2.1.next hb)) (And.intro ((H79.out.2.2.2.2.2.1.next hb)) ((H79.out.2.2.2.2.2.2.below hb H79.out.2.2.2.2.2.2.lt))))))))
                      clear hb H79
                      go_wp2_with fail
                      go_ret
                      exact ⟨rfl, H81.out.1⟩
                    | true =>
                      go_wp2_with fail
                      refine (HVC.out (ts.map Rw.d) true _ H69.out.1 HPB.out).mono ?_
                      rintro e w82 ⟨s4, rfl, hc4, hb⟩
                      have HC4 := Lib.hid hc4
                      clear hc4
                      have H83 := Lib.hid (And.intro ((newer_trans H69.out.1 hb)) (And.intro ((H69.out.2.1.below hb H69.out.2.1.lt)) (And.intro ((H69.out.2.2.1.below hb H69.out.2.2.1.lt)) (And.intro ((H69.out.2.2.2.1.below hb H69.out.2.2.2.1.lt)) (And.intro ((H69.out.2.2.2.2.1.next hb)) (And.intro ((H69.out.2.2.2.2.2.1.next hb)) ((H69.out.2.2.2.2.2.2.below hb H69.out.2.2.2.2.2.2.lt))))))))
                      clear hb H69 x0 x1 z0 z1
                      go_wp2_with fail
                      refine (table_any ts A cA _ (HOK.out.2.2.next H83.out.1) HTF.out).mono ?_
                      rintro e w84 ⟨t2, A9, c9, rfl, ht1, ht2, hb⟩
                      have HC5 := Lib.hid (HC4.out t2 A9 c9 _ hb ht2.ok (few_map ht1 HTF.out) ht1)
                      clear ht1 ht2
                      have H85 := Lib.hid (And.intro ((newer_trans H83.out.1 hb)) (And.intro ((H83.out.2.1.below hb H83.out.2.1.lt)) (And.intro ((H83.out.2.2.1.below hb H83.out.2.2.1.lt)) (And.intro ((H83.out.2.2.2.1.below hb H83.out.2.2.2.1.lt)) (And.intro ((H83.out.2.2.2.2.1.next hb)) (And.intro ((H83.out.2.2.2.2.2.1.next hb)) ((H83.out.2.2.2.2.2.2.below hb H83.out.2.2.2.2.2.2.lt))))))))
                      clear hb HC4 H83
                      go_wp2_with fail
                      refine (HC5.out).mono ?_
                      rintro e w86 ⟨rfl, hb⟩
                      have H87 := Lib.hid (And.intro ((newer_trans H85.out.1 hb)) (And.intro ((H85.out.2.1.below hb H85.out.2.1.lt)) (And.intro ((H85.out.2.2.1.below hb H85.out.2.2.1.lt)) (And.intro ((H85.out.2.2.2.1.below hb H85.out.2.2.2.1.lt)) (And.intro ((H85.out.2.2.2.2.1.next hb)) (And.intro ((H85.out.2.2.2.2.2.1.next hb)) ((H85.out.2.2.2.2.2.2.below hb H85.out.2.2.2.2.2.2.lt))))))))
                      clear hb HC5 H85
                      have x0 := H87.out.2.1.at 0 (v := .slice s.a s.cs.length s.c) rfl
                      have x1 := H87.out.2.1.at 1 (v := vi s.least) rfl
                      go_wp2_with fail
                      refine (HVC.out (tabD s.sd f) true _ H87.out.1 (HTP.out trivial)).mono ?_
                      rintro e w88 ⟨s4, rfl, hc4, hb⟩
                      have HC4 := Lib.hid (fun W hW => hc4 xs XA Xc W hW)
                      clear hc4
                      have H89 := Lib.hid (And.intro ((newer_trans H87.out.1 hb)) (And.intro ((H87.out.2.1.below hb H87.out.2.1.lt)) (And.intro ((H87.out.2.2.1.below hb H87.out.2.2.1.lt)) (And.intro ((H87.out.2.2.2.1.below hb H87.out.2.2.2.1.lt)) (And.intro ((H87.out.2.2.2.2.1.next hb)) (And.intro ((H87.out.2.2.2.2.2.1.next hb)) ((H87.out.2.2.2.2.2.2.below hb H87.out.2.2.2.2.2.2.lt))))))))
                      clear hb H87 x0 x1
                      go_wp2_with fail
                      refine (HC4.out _ (newer_refl _) H89.out.2.2.2.2.2.1 HX.out.1 (HX.out.2 trivial)).mono ?_
                      rintro e w90 ⟨rfl, hb⟩
                      have H91 := Lib.hid (And.intro ((newer_trans H89.out.1 hb)) (And.intro ((H89.out.2.1.below hb H89.out.2.1.lt)) (And.intro ((H89.out.2.2.1.below hb H89.out.2.2.1.lt)) (And.intro ((H89.out.2.2.2.1.below hb H89.out.2.2.2.1.lt)) (And.intro ((H89.out.2.2.2.2.1.next hb)) (And.intro ((H89.out.2.2.2.2.2.1.next hb)) ((H89.out.2.2.2.2.2.2.below hb H89.out.2.2.2.2.2.2.lt))))))))
                      clear hb HC4 H89
                      go_wp2_with fail
                      refine (wakes_any _).mono ?_
                      rintro e w92 ⟨rfl, hb⟩
                      have H93 := Lib.hid (And.intro ((newer_trans H91.out.1 hb)) (And.intro ((H91.out.2.1.below hb H91.out.2.1.lt)) (And.intro ((H91.out.2.2.1.below hb H91.out.2.2.1.lt)) (And.intro ((H91.out.2.2.2.1.below hb H91.out.2.2.2.1.lt)) (And.intro ((H91.out.2.2.2.2.1.next hb)) (And.intro ((H91.out.2.2.2.2.2.1.next hb)) ((H91.out.2.2.2.2.2.2.below hb H91.out.2.2.2.2.2.2.lt))))))))
                      clear hb H91
                      go_wp2_with fail
                      go_ret
                      exact ⟨rfl, H93.out.1⟩
            · have he5 : e5 = 7 := by rcases heor with h | h; exact h; exact absurd (hlow h).1 (by decide)
              subst he5
              have hg : g = 0 := by rcases hen with ⟨_, h, _⟩ | ⟨h, _⟩; exact absurd h (by decide); exact h
              subst hg
              clear hen hlow heor hpv
              have x0 := H25.out.2.1.at 0 (v := .slice s.a s.cs.length s.c) rfl
              have x1 := H25.out.2.1.at 1 (v := vi s.least) rfl
              have q0 := H25.out.2.2.1.at 0 (v := vi r0) rfl
              have q1 := H25.out.2.2.1.at 1 (v := vi r1) rfl
              go_wp2_with fail
              refine (HVC.out (tabD s.sd f) true _ H25.out.1 (HTP.out trivial)).mono ?_
              rintro e w94 ⟨s4, rfl, hc4, hb⟩
              have HC4 := Lib.hid (fun W hW => hc4 xs XA Xc W hW)
              clear hc4
              have H95 := Lib.hid (And.intro ((newer_trans H25.out.1 hb)) (And.intro ((H25.out.2.1.below hb H25.out.2.1.lt)) (And.intro ((H25.out.2.2.1.below hb H25.out.2.2.1.lt)) (And.intro ((H25.out.2.2.2.1.below hb H25.out.2.2.2.1.lt)) (And.intro ((H25.out.2.2.2.2.1.next hb)) ((H25.out.2.2.2.2.2.next hb)))))))
              clear hb H25 x0 x1 q0 q1
              go_wp2_with fail
              refine (HC4.out _ (newer_refl _) H95.out.2.2.2.2.2 HX.out.1 (HX.out.2 trivial)).mono ?_
              rintro e w96 ⟨rfl, hb⟩
              have H97 := Lib.hid (And.intro ((newer_trans H95.out.1 hb)) (And.intro ((H95.out.2.1.below hb H95.out.2.1.lt)) (And.intro ((H95.out.2.2.1.below hb H95.out.2.2.1.lt)) (And.intro ((H95.out.2.2.2.1.below hb H95.out.2.2.2.1.lt)) (And.intro ((H95.out.2.2.2.2.1.next hb)) ((H95.out.2.2.2.2.2.next hb)))))))
              clear hb HC4 H95
              go_wp2_with fail
              refine (wakes_any _).mono ?_
              rintro e w98 ⟨rfl, hb⟩
              have H99 := Lib.hid (And.intro ((newer_trans H97.out.1 hb)) (And.intro ((H97.out.2.1.below hb H97.out.2.1.lt)) (And.intro ((H97.out.2.2.1.below hb H97.out.2.2.1.lt)) (And.intro ((H97.out.2.2.2.1.below hb H97.out.2.2.2.1.lt)) (And.intro ((H97.out.2.2.2.2.1.next hb)) ((H97.out.2.2.2.2.2.next hb)))))))
              clear hb H97
              go_wp2_with fail
              go_ret
              exact ⟨rfl, H99.out.1⟩
end
set_option maxRecDepth 100000 in
set_option maxHeartbeats 1000000 in
theorem slopeLeast_lifted (os : Os) (started : os.Started) (H : Type) (enc : TypeId × Value → H) :
    ReturnsInHanded {} Try.checked os 14 .any (Rows.slopeLeastSpec.pre6 enc Try.prog Try.f14 Rows.slopeLeastRow.domain false) (Rows.slopeLeastSpec.post enc Try.prog Try.f14 false true false false) := by
  refine returnsInHanded_of_change (C := Try.checked) Try.own started (by kernel_rfl) Try.func14
    (ChangeSpec.witness6 (enc := enc) (C := Try.checked) false ⟨#[], #[.agg #[.slice none 0 0, .int .i64 0], .slice none 0 0, .int .u16 0, .slice none 0 0], []⟩ 8 (by kernel_rfl) (by kernel_rfl) (by kernel_rfl) (by kernel_rfl)) ?_
  intro W base args ds gs before hval0 hW hcnd _
  have hval : ∀ (j : Nat) t v, Try.f14.params[j]? = some t → args[j]? = some v → Value.okWide Try.prog W .any base t v := hval0
  have hW' := hW
  obtain ⟨p, q, hA0, hV, rfl, hfz, hnd⟩ := hW
  have hA : DataW.TrodAll enc Try.prog W 0 (fun _ => true) true Try.f14.params.toList args.toList ds p := hA0
  rw [Try.params14] at hA hval
  obtain ⟨v0, vs0, d0, ds0, p0, q0, hargs, rfl, rfl, h0, r0⟩ := trodAll_cons hA
  obtain ⟨v1, vs1, d1, ds1, p1, q1, rfl, rfl, rfl, h1, r1⟩ := trodAll_cons r0
  obtain ⟨v2, vs2, d2, ds2, p2, q2, rfl, rfl, rfl, h2, r2⟩ := trodAll_cons r1
  obtain ⟨v3, vs3, d3, ds3, p3, q3, rfl, rfl, rfl, h3, r3⟩ := trodAll_cons r2
  obtain ⟨rfl, rfl, rfl⟩ := trodAll_nil r3
  obtain rfl : args = #[v0, v1, v2, v3] := by cases args; simp_all
  obtain ⟨rfl, rfl⟩ := trodVars_none hV
  obtain ⟨c0, rfl, hs0⟩ := okWide_struct Try.underlying24 (hval 0 24 v0 rfl rfl)
  have k0 := h0
  have lt0 : ∀ x ∈ p0, x.block < W.heap.size := by obtain ⟨m, hm⟩ := k0; exact DataW.trod_lt m _ _ _ hm
  obtain ⟨g0, e0, hrow0⟩ : ∃ p : Sm, c0.toList = (smC p).toList ∧ SmOk p W := by
    obtain ⟨fuel, hf⟩ := h0
    exact slope_open hf
  obtain rfl : c0 = smC g0 := Array.toList_inj.1 e0
  obtain ⟨a1, len1, cap1, rfl⟩ := okWide_slice Try.underlying65 (hval 1 65 v1 rfl rfl)
  have k1 := h1
  have lt1 : ∀ x ∈ p1, x.block < W.heap.size := by obtain ⟨m, hm⟩ := k1; exact DataW.trod_lt m _ _ _ hm
  obtain ⟨D1, l1, dp1, e1, hl1, hrow1⟩ : ∃ (D : Option Addr) (l : List Byt) (dp : Nat), (Value.slice a1 len1 cap1).cells.toList = [.slice D l.length dp] ∧ l.length ≤ maxLen ∧ Row byL 1 W W.heap.size D l := by
    obtain ⟨fuel, hf⟩ := h1
    exact bytes_open hf
  simp [Value.cells] at e1
  obtain ⟨rfl, rfl, rfl⟩ := e1
  obtain ⟨a2, rfl, rfl, rfl, w2⟩ := open_int Try.underlying62 (hval 2 62 v2 rfl rfl) h2
  obtain ⟨a3, len3, cap3, rfl⟩ := okWide_slice Try.underlying87 (hval 3 87 v3 rfl rfl)
  have k3 := h3
  have lt3 : ∀ x ∈ p3, x.block < W.heap.size := by obtain ⟨m, hm⟩ := k3; exact DataW.trod_lt m _ _ _ hm
  obtain ⟨D3, l3, dp3, e3, hl3, hrow3⟩ : ∃ (D : Option Addr) (l : List Rw) (dp : Nat), (Value.slice a3 len3 cap3).cells.toList = [.slice D l.length dp] ∧ l.length ≤ maxLen ∧ TbOk l D W := by
    obtain ⟨fuel, hf⟩ := h3
    exact table_open hf
  simp [Value.cells] at e3
  obtain ⟨rfl, rfl, rfl⟩ := e3
  have hb2 := bounds_u16 w2
  clear hA0 hval0
  refine (slopeLeast_walk g0 l1 a1 cap1 a2 l3 a3 cap3 W hb2.1 hb2.2 hrow0 hrow1 hrow3).mono fun e W' ⟨he, bel⟩ => ?_
  subst he
  exact ⟨_, rfl, _, _, _, [], _, [], hW', trodAll_mk1 (shut_bool Try.underlying4 _), (trodAll_cons_mk (Below.trod Try.laidOut (by kernel_rfl) (of_decide_eq_true (by kernel_rfl)) k0 bel lt0) (trodAll_cons_mk (Below.trod Try.laidOut (by kernel_rfl) (of_decide_eq_true (by kernel_rfl)) k1 bel lt1) (trodAll_cons_mk (shut_int Try.underlying62 w2) (trodAll_cons_mk (Below.trod Try.laidOut (by kernel_rfl) (of_decide_eq_true (by kernel_rfl)) k3 bel lt3) trodAll_mk0)))), rfl, bel.frame _, fun h => by cases h⟩
theorem slopeLeast_holds : Rows.SlopeLeastSaid :=
  OpenClaim.holds_of_wide 14 Try.f14 rfl rfl rfl rfl rfl rfl rfl ⟨rfl, rfl, rfl, rfl, rfl⟩ rfl rfl rfl rfl rfl (by kernel_rfl) Try.func14 (by kernel_rfl)
    (of_decide_eq_true (by kernel_rfl)) (by unfold Func.isWrapper; first | (rw [if_pos (by decide +kernel)]; kernel_rfl) | (rw [if_neg (by decide +kernel)]; exact ⟨rfl, rfl⟩))
    (fun os started H enc _ => slopeLeast_lifted os started H enc)
end

#print axioms slopeLeast_holds

end Go.Proofs.Ytkenokpobbichaa
