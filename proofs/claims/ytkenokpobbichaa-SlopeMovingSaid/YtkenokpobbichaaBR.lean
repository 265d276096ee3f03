/- SlopeMoving returns true: whatever surely moves may move, and so on, as the document says. -/
import Derived.Test.YtkenokpobbichaaBQ
import Derived.Test.YtkenokpobbichaaBG
import Derived.Test.YtkenokpobbichaaY
namespace Go.Proofs.Ytkenokpobbichaa
open Go.ChangeShapes Go.WideShapes Go.ChangeAt Go.RowKit Go.Deep

section
open Go.RowKit Go.Shelf Go.Deep
set_option maxRecDepth 100000 in
set_option maxHeartbeats 8000000 in
theorem slopeMoving_walk (s : Sm) (ws : List Byt) (wa : Option Addr) (wc : Nat) (a2 : Int) (w : World) (h20 : 0 ≤ a2) (h21 : a2 ≤ 65535) (hok : SmOk s w) (hwr : Row byL 1 w w.heap.size wa ws) : Calls Try.prog 9 #[smV s, .slice wa ws.length wc, .int .u16 a2] w fun e w' => e = .returned (.bool true) ∧ newer w w' := by
  have hnw := newer_allocH w (.cells (smC s) 24)
  have hxb := Whole.made w 24 (smC s)
  have H1 := Lib.hid (And.intro (hnw) (hxb))
  clear hnw hxb
  have HOK := Lib.hid (And.intro hok hwr)
  have HRD := Lib.hid (ready_any s _ (hok.next H1.out.1))
  obtain ⟨n1, rfl⟩ : ∃ n : Nat, a2 = n := ⟨a2.toNat, by omega⟩
  clear hok hwr
  have x0 := H1.out.2.at 0 (v := .slice s.a s.cs.length s.c) rfl
  have x1 := H1.out.2.at 1 (v := vi s.least) rfl
  cases hr : readyB s.sd with
  | false =>
    rw [hr] at HRD
    clear hr
    go_enter Try.func9, Try.ntmps9
    go_wp2_with fail
    refine (HRD.out).mono ?_
    rintro e w2 ⟨rfl, hb⟩
    have H3 := Lib.hid (And.intro ((newer_trans H1.out.1 hb)) ((H1.out.2.below hb H1.out.2.lt)))
    clear hb HRD H1 x0 x1
    go_wp2_with fail
    refine (wakes_any _).mono ?_
    rintro e w4 ⟨rfl, hb⟩
    have H5 := Lib.hid (And.intro ((newer_trans H3.out.1 hb)) ((H3.out.2.below hb H3.out.2.lt)))
    clear hb H3
    go_wp2_with fail
    go_ret
    exact ⟨rfl, H5.out.1⟩
  | true =>
    rw [hr] at HRD
    obtain ⟨hs, few, hle⟩ := ready_ok hr
    have HFW := Lib.hid few
    have HSD := Lib.hid hs
    clear hr
    obtain ⟨f, hf⟩ : ∃ f : Nat, f = n1 % 10001 := ⟨_, rfl⟩
    have hff : (n1 : Int) % 10001 = f := by omega
    have hf1 : f ≤ 10000 := by omega
    clear hf
    have hak : askedN s.sd f = 0 := by
      unfold askedN
      rw [sdOk_iff.2 hs, show inB (f : Int) 0 10000 = true by simp only [inB, Bool.and_eq_true, decide_eq_true_eq]; omega]
      rfl
    have HPA : Hid (∀ W, newer w W → Calls Try.prog 40 #[smV s, .slice wa ws.length wc] W fun e w' => ∃ u : Su, e = .returned (suV u) ∧ SuOk u w' ∧ (∃ k l, u.frm = (k : Nat) ∧ u.beds = l.map (fun x : Nat => (x : Int)) ∧ SurfB s.sd.n s.cs.length s.sd.K k l) ∧ newer W w') := Lib.hid (fun W hW => path_any s ws wa wc W (HOK.out.1.next hW) ((HOK.out.2.below hW).more hW.size) hs hle)
    have HSL : Hid (∀ W, newer w W → Calls Try.prog 19 #[smV s] W fun e w' => ∃ s2 : Sm, e = .returned (smV s2) ∧ (∀ W2, newer w' W2 → Calls Try.prog 25 #[smV s2] W2 fun e w3 => ∃ (a : Int) (A : Option Addr) (n c : Nat), e = .returned (.tuple #[.agg #[vi a, .slice A n c], vi (wV s.sd), vi (wE s.sd)]) ∧ newer W2 w3) ∧ newer W w') := Lib.hid (fun W hW => slope_chain s _ W (HOK.out.1.next hW) rfl hs)
    obtain ⟨LA, hLA⟩ : ∃ L : List Int, L = (movesL s.sd f (some true)).map fun x : Nat => (x : Int) := ⟨_, rfl⟩
    obtain ⟨LB, hLB⟩ : ∃ L : List Int, L = (movesL s.sd f (some false)).map fun x : Nat => (x : Int) := ⟨_, rfl⟩
    have HM : Hid (∀ (s2 : Sm) W, s2.sd = s.sd → SmOk s2 W → Calls Try.prog 35 #[smV s2, vi f] W fun e w' => ∃ A c B d, e = .returned (.tuple #[.slice A LA.length c, .slice B LB.length d, vi 0]) ∧ Row intL 1 w' w'.heap.size A LA ∧ Row intL 1 w' w'.heap.size B LB ∧ newer W w') := Lib.hid (fun s2 W h1 h2 => by
      refine (moves35_any s2 f W h2 (few_sd h1 few)).mono ?_
      rintro e w' ⟨h3, h4⟩
      unfold movesOut at h3
      rw [h1, hak, decide_eq_true rfl] at h3
      obtain ⟨A, c, B, d, rfl, h5, h6⟩ := h3
      obtain ⟨e1, h5⟩ := row_nats hLA h5
      obtain ⟨e2, h6⟩ := row_nats hLB h6
      exact ⟨A, c, B, d, by rw [e1, e2], h5, h6, h4⟩)
    have hcl : s.sd.cols.length ≤ 12 := hs.cols.2
    have hla := moves_few s.sd f (some true)
    have hlb := moves_few s.sd f (some false)
    have hla12 : LA.length ≤ 12 := by rw [hLA, List.length_map]; omega
    have hlb12 : LB.length ≤ 12 := by rw [hLB, List.length_map]; omega
    have HAB : Hid (∀ x ∈ LA, x ∈ LB) := Lib.hid (fun x hx => by
      rw [hLA] at hx
      obtain ⟨n, hn, rfl⟩ := List.mem_map.1 hx
      rw [hLB]
      exact List.mem_map.2 ⟨n, moves_sure hs (by omega) (by omega) hn, rfl⟩)
    have HSO : Hid (∀ (i : Nat) x y, LA[i + 1]? = some x → LA[i]? = some y → y < x) := Lib.hid (fun i x y hx hy => by
      have hp := moves_sorted s.sd f (some true)
      rw [hLA] at hx hy
      rw [List.getElem?_map] at hx hy
      obtain ⟨p, hp1, rfl⟩ := Option.map_eq_some_iff.1 hx
      obtain ⟨q, hq1, rfl⟩ := Option.map_eq_some_iff.1 hy
      obtain ⟨h1, h2⟩ := List.getElem?_eq_some_iff.1 hp1
      obtain ⟨h3, h4⟩ := List.getElem?_eq_some_iff.1 hq1
      have h5 := List.pairwise_iff_getElem.1 hp i (i + 1) h3 h1 (by omega)
      omega)
    have hnil : LB = [] ↔ ¬ (wE s.sd = 0 ∧ wV s.sd < f) := by rw [hLB, List.map_eq_nil_iff]; exact moves_none hs (by omega) (by omega)
    have HSPN : Hid (∀ (frm : Int) (l : List Int) (k0 : Nat) (m : List Nat), frm = (k0 : Nat) → l = m.map (fun x : Nat => (x : Int)) → SurfB s.sd.n s.cs.length s.sd.K k0 m → spanE s.sd frm l = 0 → ∀ i, i < l.length → (spanP s.sd frm l false < f → frm + i ∈ LB) ∧ (spanP s.sd frm l true < f → frm + i ∈ LA)) := Lib.hid (fun frm l k0 m h1 h2 h3 h4 i h5 => by
      rw [h2, List.length_map] at h5
      rw [hLA, hLB]
      refine ⟨fun h6 => List.mem_map.2 ⟨k0 + i, moves_span hs h1 h2 h3 (by omega) (by omega) false h4 h6 h5, by rw [h1, Int.natCast_add]⟩, fun h6 => List.mem_map.2 ⟨k0 + i, moves_span hs h1 h2 h3 (by omega) (by omega) true h4 h6 h5, by rw [h1, Int.natCast_add]⟩⟩)
    have h0 := wE_is s.sd
    obtain ⟨e0, he0⟩ : ∃ e, e = wE s.sd := ⟨_, rfl⟩
    obtain ⟨v0, hv0⟩ : ∃ v, v = wV s.sd := ⟨_, rfl⟩
    rw [← he0] at h0
    rw [← he0, ← hv0] at HSL
    rw [← he0, ← hv0] at hnil
    clear he0 hv0 hs few hle hak hLA hLB hcl hla hlb
    have hcase : (e0 = 7 ∧ LB = []) ∨ (e0 = 0 ∧ (f : Int) ≤ v0 ∧ LB = []) ∨ (e0 = 0 ∧ v0 < f ∧ ¬ LB = []) := by
      rcases h0 with h | h
      · by_cases h2 : v0 < f
        · exact .inr (.inr ⟨h, h2, fun h3 => (hnil.1 h3) ⟨h, h2⟩⟩)
        · exact .inr (.inl ⟨h, by omega, hnil.2 (fun h3 => h2 h3.2)⟩)
      · exact .inl ⟨h, hnil.2 (fun h3 => by omega)⟩
    clear h0 hnil
    have HCASE := Lib.hid hcase
    clear hcase
    go_enter Try.func9, Try.ntmps9
    go_wp2_with fail
    refine (HRD.out).mono ?_
    rintro e w6 ⟨rfl, hb⟩
    have H7 := Lib.hid (And.intro ((newer_trans H1.out.1 hb)) ((H1.out.2.below hb H1.out.2.lt)))
    clear hb HRD H1 x0 x1
    have x0 := H7.out.2.at 0 (v := .slice s.a s.cs.length s.c) rfl
    have x1 := H7.out.2.at 1 (v := vi s.least) rfl
    go_wp2_with fail
    refine (lawSlope s _ (HOK.out.1.next H7.out.1) HFW.out).mono ?_
    rintro e w8 ⟨s2, rfl, hd, hs2, hb⟩
    have HMM := Lib.hid (HM.out s2 _ hd hs2)
    have H9 := Lib.hid (And.intro ((newer_trans H7.out.1 hb)) ((H7.out.2.below hb H7.out.2.lt)))
    clear hb hd hs2 HM H7 x0 x1
    go_wp2_with fail
    refine (HMM.out).mono ?_
    rintro e w10 ⟨A1, c1, A2, c2, rfl, hr1, hr2, hb⟩
    have H11 := Lib.hid (And.intro ((newer_trans H9.out.1 hb)) (And.intro ((H9.out.2.below hb H9.out.2.lt)) (And.intro (hr1) (hr2))))
    clear hb HMM hr1 hr2 H9
    have x0 := H11.out.2.1.at 0 (v := .slice s.a s.cs.length s.c) rfl
    have x1 := H11.out.2.1.at 1 (v := vi s.least) rfl
    go_wp2_with fail
    refine (HSL.out _ H11.out.1).mono ?_
    rintro e w12 ⟨s4, rfl, hc4, hb⟩
    have HC4 := Lib.hid (hc4 _ (newer_refl _))
    clear hc4
    have H13 := Lib.hid (And.intro ((newer_trans H11.out.1 hb)) (And.intro ((H11.out.2.1.below hb H11.out.2.1.lt)) (And.intro (((H11.out.2.2.1.below hb).more hb.size)) (((H11.out.2.2.2.below hb).more hb.size)))))
    clear hb HSL H11 x0 x1
    go_wp2_with fail
    refine (HC4.out).mono ?_
    rintro e w14 ⟨a_, A_, n_, c_, rfl, hb⟩
    have H15 := Lib.hid (And.intro ((newer_trans H13.out.1 hb)) (And.intro ((H13.out.2.1.below hb H13.out.2.1.lt)) (And.intro (((H13.out.2.2.1.below hb).more hb.size)) (((H13.out.2.2.2.below hb).more hb.size)))))
    clear hb HC4 H13
    have e6 := newer_allocH w14 (.cells #[vi a_, .slice A_ n_ c_] 39)
    have H16 := Lib.hid (And.intro ((newer_trans H15.out.1 e6)) (And.intro ((H15.out.2.1.below e6 H15.out.2.1.lt)) (And.intro (((H15.out.2.2.1.below e6).more e6.size)) (((H15.out.2.2.2.below e6).more e6.size)))))
    clear e6 H15
    go_upto_region 6 with fail
    refine genQ (fun X => newer w X ∧ Whole X w.heap.size 24 (smC s) ∧ Row intL 1 X X.heap.size A1 LA ∧ Row intL 1 X X.heap.size A2 LB) ⟨H16.out.1, H16.out.2.1, H16.out.2.2.1, H16.out.2.2.2⟩ ?_
    rintro w17 ⟨g0_, g1_, g2_, g3_⟩
    have H18 := Lib.hid (And.intro (g0_) (And.intro (g1_) (And.intro (g2_) (g3_))))
    clear g0_ g1_ g2_ g3_ H16
    go_cut [63] from 41 to 63 (fun s63 wx => s63 = .bool false ∧ wx = w17)
    case first =>
      rcases HCASE.out with ⟨rfl, hz⟩ | ⟨rfl, hfv, hz⟩ | ⟨rfl, hfv, hbn⟩
      · subst hz
        go_wp2_with fail
        go_meet
        exact ⟨rfl, rfl⟩
      · subst hz
        go_wp2_with fail
        go_meet
        exact ⟨rfl, rfl⟩
      · have hb0 : ¬ LB.length = 0 := fun h => hbn (List.eq_nil_of_length_eq_zero h)
        have hb1 : ((LB.length : Int) == 0) = false := by simp; exact hbn
        have hb2 : ¬ ((f : Int) ≤ v0) := by omega
        go_wp2_with fail
        go_meet
        exact ⟨rfl, rfl⟩
    case rest =>
      obtain ⟨rfl, rfl⟩ := hcut
      clear HCASE
      go_wp2_with fail
      go_loopw [14] (fun s14 wr => ∃ i : Nat, s14 = vi i ∧ i ≤ LA.length ∧ newer w wr ∧ Whole wr w.heap.size 24 (smC s) ∧ Row intL 1 wr wr.heap.size A1 LA ∧ Row intL 1 wr wr.heap.size A2 LB) (fun s14 _ => LA.length - (intOf s14).toNat)
      case atStart => exact ⟨0, rfl, Nat.zero_le _, H18.out.1, H18.out.2.1, H18.out.2.2.1, H18.out.2.2.2⟩
      case round =>
        obtain ⟨i, rfl, hi, q1, q2, q3, q4⟩ := hrel
        clear H18
        have H19 := Lib.hid (And.intro (q1) (And.intro (q2) (And.intro (q3) (q4))))
        clear q1 q2 q3 q4
        obtain ⟨wo, rfl⟩ : ∃ wo : World, wo = wr := ⟨_, rfl⟩
        by_cases hlt : i < LA.length
        · have hii : (i : Int) < LA.length := by omega
          obtain ⟨x, hx⟩ := get_of_lt hlt
          obtain ⟨ab, ao, eA, _, ca⟩ := row_int1 H19.out.2.2.1 hx
          have HAS : Hid (∀ W, newer wo W → Calls Try.prog 41 #[.slice A2 LB.length c2, vi x] W fun e w' => e = .returned (.bool true) ∧ newer W w') := Lib.hid (fun W hW => by
            have h := hasL_any LB A2 c2 x W (by omega) ((H19.out.2.2.2.below hW).more hW.size)
            rw [decide_eq_true (HAB.out x (List.mem_of_getElem? hx))] at h
            exact h)
          subst eA
          by_cases hi0 : i = 0
          · have hip : ¬ (0 < i) := by omega
            have hip2 : ¬ ((0 : Int) < i) := by omega
            clear hx
            go_upto_region 11 with fail
            refine wp_words (by kernel_rfl) (region_told_u 22 (by kernel_rfl) (by kernel_rfl) [false, false, false, false, false, false, false, false, false, false, false, true, true, true, true, true, true, true, true, true, true, false] (fun W => Below wo.heap.size wo W) newer [vIs (.slice A2 LB.length c2), vIs (.slice (some ⟨ab, ao, none⟩) LA.length c1), vIs (vi i), vIs (.pointer (some ⟨ab, ao + i, none⟩)), vIs (vi x), vIs (.bool true), vIs (.bool false), vIs (.bool false), vIs (vi i), vIs (.bool false), vIs (.bool false), vIs (undef), vIs (undef), vIs (undef), vIs (undef), vIs (undef), vIs (undef), vIs (undef), vIs (undef), vIs (undef), vIs (undef), vIs (.bool false)] ⟨rfl, rfl, rfl, rfl, rfl, rfl, rfl, rfl, (fun v W h => by obtain rfl : v = _ := h; rfl), (fun v W h => by obtain rfl : v = _ := h; rfl), (fun v W h => by obtain rfl : v = _ := h; rfl), (fun v W h => by obtain rfl : v = _ := h; simp), (fun v W h => by obtain rfl : v = _ := h; simp), (fun v W h => by obtain rfl : v = _ := h; simp), (fun v W h => by obtain rfl : v = _ := h; simp), (fun v W h => by obtain rfl : v = _ := h; simp), (fun v W h => by obtain rfl : v = _ := h; simp), (fun v W h => by obtain rfl : v = _ := h; simp), (fun v W h => by obtain rfl : v = _ := h; simp), (fun v W h => by obtain rfl : v = _ := h; simp), (fun v W h => by obtain rfl : v = _ := h; simp), (fun v W h => by obtain rfl : v = _ := h; rfl), trivial⟩ ⟨(fun h => Bool.noConfusion (show false = true from h)), (fun h => Bool.noConfusion (show false = true from h)), (fun h => Bool.noConfusion (show false = true from h)), (fun h => Bool.noConfusion (show false = true from h)), (fun h => Bool.noConfusion (show false = true from h)), (fun h => Bool.noConfusion (show false = true from h)), (fun h => Bool.noConfusion (show false = true from h)), (fun h => Bool.noConfusion (show false = true from h)), (fun h => Bool.noConfusion (show false = true from h)), (fun h => Bool.noConfusion (show false = true from h)), (fun h => Bool.noConfusion (show false = true from h)), (fun _ _ => rfl), (fun _ _ => rfl), (fun _ _ => rfl), (fun _ _ => rfl), (fun _ _ => rfl), (fun _ _ => rfl), (fun _ _ => rfl), (fun _ _ => rfl), (fun _ _ => rfl), (fun _ _ => rfl), (fun h => Bool.noConfusion (show false = true from h)), trivial⟩ (fun h k => newer_trans h k) (pickD_stable _ ⟨vIs_st, vIs_st, vIs_st, vIs_st, vIs_st, vIs_st, vIs_st, vIs_st, vIs_st, vIs_st, vIs_st, vIs_st, vIs_st, vIs_st, vIs_st, vIs_st, vIs_st, vIs_st, vIs_st, vIs_st, vIs_st, vIs_st, trivial⟩) (Below.refl _ wo).drew (Below.refl _ _) ?_ ?_)
            · refine ⟨.inr ?_, .inr ?_, .inr ?_, .inr ?_, .inr ?_, .inr ?_, .inr ?_, .inr ?_, .inr ?_, .inr ?_, .inr ?_, .inl rfl, .inl rfl, .inl rfl, .inl rfl, .inl rfl, .inl rfl, .inl rfl, .inl rfl, .inl rfl, .inl rfl, .inr ?_, trivial⟩
              · intro a W hG hR hO hp
                have h9 := hO.slot 9 (by kernel_rfl)
                refine wp_yields (v := .slice A2 LB.length c2) ?_ ⟨_, rfl, rfl, Below.refl _ _, hG⟩
                simp [slotOf] at h9
                simp [execOp, go_sem, h9]
              · intro a W hG hR hO hp
                have h8 := hO.slot 8 (by kernel_rfl)
                refine wp_yields (v := .slice (some ⟨ab, ao, none⟩) LA.length c1) ?_ ⟨_, rfl, rfl, Below.refl _ _, hG⟩
                simp [slotOf] at h8
                simp [execOp, go_sem, h8]
              · intro a W hG hR hO hp
                have h14 := hO.slot 14 (by kernel_rfl)
                refine wp_yields (v := vi i) ?_ ⟨_, rfl, rfl, Below.refl _ _, hG⟩
                simp [slotOf] at h14
                simp [execOp, go_sem, h14]
              · intro a W hG hR hO hp
                have h71 : slotOf a 71 = .slice (some ⟨ab, ao, none⟩) LA.length c1 := hp.1
                have h72 : slotOf a 72 = vi i := hp.2.1
                refine wp_yields (v := .pointer (some ⟨ab, ao + i, none⟩)) ?_ ⟨_, rfl, rfl, Below.refl _ _, hG⟩
                simp [slotOf] at h71 h72
                simp [execOp, go_sem, h71, h72, hii]
              · intro a W hG hR hO hp
                have h73 : slotOf a 73 = .pointer (some ⟨ab, ao + i, none⟩) := hp.1
                have c0 := keep_cell ca hG
                refine wp_yields (v := vi x) ?_ ⟨_, rfl, rfl, Below.refl _ _, hG⟩
                simp [slotOf] at h73
                simp [execOp, go_sem, h73, c0]
              · intro a W hG hR hO hp
                have h70 : slotOf a 70 = .slice A2 LB.length c2 := hp.1
                have h74 : slotOf a 74 = vi x := hp.2.1
                refine wp_enters (f := 41) (args := #[.slice A2 LB.length c2, vi x]) ?_ ((HAS.out W hG).mono ?_)
                · simp [slotOf] at h70 h74
                  simp [go_sem, h70, h74]
                · rintro e w' ⟨rfl, hb⟩
                  exact ⟨_, rfl, _, rfl, rfl, hb, below_next hG hb⟩
              · intro a W hG hR hO hp
                have h75 : slotOf a 75 = .bool true := hp.1
                refine wp_yields (v := .bool false) ?_ ⟨_, rfl, rfl, Below.refl _ _, hG⟩
                simp [slotOf] at h75
                simp [execOp, go_sem, h75]
              · intro a W hG hR hO hp
                have h76 : slotOf a 76 = .bool false := hp.1
                refine wp_yields (v := .bool false) ?_ ⟨_, rfl, rfl, Below.refl _ _, hG⟩
                simp [slotOf] at h76
                simp [execOp, go_sem, h76]
              · intro a W hG hR hO hp
                have h14 := hO.slot 14 (by kernel_rfl)
                refine wp_yields (v := vi i) ?_ ⟨_, rfl, rfl, Below.refl _ _, hG⟩
                simp [slotOf] at h14
                simp [execOp, go_sem, h14]
              · intro a W hG hR hO hp
                have h78 : slotOf a 78 = vi i := hp.1
                refine wp_yields (v := .bool false) ?_ ⟨_, rfl, rfl, Below.refl _ _, hG⟩
                simp [slotOf] at h78
                simp [execOp, go_sem, h78, hip]
              · intro a W hG hR hO hp
                have h79 : slotOf a 79 = .bool false := hp.1
                refine wp_yields (v := .bool false) ?_ ⟨_, rfl, rfl, Below.refl _ _, hG⟩
                simp [slotOf] at h79
                simp [execOp, go_sem, h79]
              · intro a W hG hR hO hp
                have h80 : slotOf a 80 = .bool false := hp.1
                have h90 : slotOf a 90 = undef := hp.2.1
                refine wp_yields (v := .bool false) ?_ ⟨_, rfl, rfl, Below.refl _ _, hG⟩
                simp [slotOf] at h80 h90
                simp [execOp, go_sem, h80, h90]
            · intro wz hG hR
              rintro _ rfl _ rfl _ rfl _ rfl _ rfl _ rfl _ rfl _ rfl _ rfl _ rfl _ rfl _ rfl _ rfl _ rfl _ rfl _ rfl _ rfl _ rfl _ rfl _ rfl _ rfl _ rfl
              change wpList _ _ _ _ _ _
              simp only [Act.put, List.setIfInBounds_toArray, List.set_cons_zero, List.set_cons_succ, List.drop_succ_cons, List.drop_zero]
              have H20 := Lib.hid (And.intro ((newer_trans H19.out.1 hG)) (And.intro ((H19.out.2.1.below hG H19.out.2.1.lt)) (And.intro (((H19.out.2.2.1.below hG).more hG.size)) (((H19.out.2.2.2.below hG).more hG.size)))))
              clear hG hR HAS ca H19
              clear hi0 hip hip2
              go_wp2_with fail
              refine ⟨⟨i + 1, rfl, by omega, H20.out.1, H20.out.2.1, H20.out.2.2.1, H20.out.2.2.2⟩, ?_⟩
              simp [intOf]
              omega
          · have hip : 0 < i := by omega
            have hip2 : (0 : Int) < i := by omega
            obtain ⟨i1, hi1e⟩ : ∃ i1, i = i1 + 1 := ⟨i - 1, by omega⟩
            obtain ⟨y, hy⟩ := get_of_lt (l := LA) (k := i1) (by omega)
            have hxy : ¬ x ≤ y := by have h9 := HSO.out i1 x y (by rw [← hi1e]; exact hx) hy; omega
            have ei1 : IntKind.i64.wrap ((i : Int) - 1) = i1 := by rw [show (i1 : Int) = (i : Int) - 1 by omega]; exact IntWalk.i64_in _ (by omega)
            have hi1 : (i1 : Int) < LA.length := by omega
            obtain ⟨ab2, ao2, eA, _, cb⟩ := row_int1 H19.out.2.2.1 hy
            obtain ⟨rfl, rfl⟩ : ab = ab2 ∧ ao = ao2 := by simpa using eA
            clear hx hy eA hi1e
            go_upto_region 11 with fail
            refine wp_words (by kernel_rfl) (region_told_u 22 (by kernel_rfl) (by kernel_rfl) [false, false, false, false, false, false, false, false, false, false, false, false, false, false, false, false, false, false, false, false, false, false] (fun W => Below wo.heap.size wo W) newer [vIs (.slice A2 LB.length c2), vIs (.slice (some ⟨ab, ao, none⟩) LA.length c1), vIs (vi i), vIs (.pointer (some ⟨ab, ao + i, none⟩)), vIs (vi x), vIs (.bool true), vIs (.bool false), vIs (.bool false), vIs (vi i), vIs (.bool true), vIs (.bool true), vIs (.slice (some ⟨ab, ao, none⟩) LA.length c1), vIs (vi i), vIs (.pointer (some ⟨ab, ao + i, none⟩)), vIs (vi x), vIs (.slice (some ⟨ab, ao, none⟩) LA.length c1), vIs (vi i), vIs (vi i1), vIs (.pointer (some ⟨ab, ao + i1, none⟩)), vIs (vi y), vIs (.bool false), vIs (.bool false)] ⟨rfl, rfl, rfl, rfl, rfl, rfl, rfl, rfl, (fun v W h => by obtain rfl : v = _ := h; rfl), (fun v W h => by obtain rfl : v = _ := h; rfl), (fun v W h => by obtain rfl : v = _ := h; rfl), (fun v W h => by obtain rfl : v = _ := h; rfl), (fun v W h => by obtain rfl : v = _ := h; rfl), (fun v W h => by obtain rfl : v = _ := h; rfl), (fun v W h => by obtain rfl : v = _ := h; rfl), (fun v W h => by obtain rfl : v = _ := h; rfl), (fun v W h => by obtain rfl : v = _ := h; rfl), (fun v W h => by obtain rfl : v = _ := h; rfl), (fun v W h => by obtain rfl : v = _ := h; rfl), (fun v W h => by obtain rfl : v = _ := h; rfl), (fun v W h => by obtain rfl : v = _ := h; rfl), (fun v W h => by obtain rfl : v = _ := h; rfl), trivial⟩ ⟨(fun h => Bool.noConfusion (show false = true from h)), (fun h => Bool.noConfusion (show false = true from h)), (fun h => Bool.noConfusion (show false = true from h)), (fun h => Bool.noConfusion (show false = true from h)), (fun h => Bool.noConfusion (show false = true from h)), (fun h => Bool.noConfusion (show false = true from h)), (fun h => Bool.noConfusion (show false = true from h)), (fun h => Bool.noConfusion (show false = true from h)), (fun h => Bool.noConfusion (show false = true from h)), (fun h => Bool.noConfusion (show false = true from h)), (fun h => Bool.noConfusion (show false = true from h)), (fun h => Bool.noConfusion (show false = true from h)), (fun h => Bool.noConfusion (show false = true from h)), (fun h => Bool.noConfusion (show false = true from h)), (fun h => Bool.noConfusion (show false = true from h)), (fun h => Bool.noConfusion (show false = true from h)), (fun h => Bool.noConfusion (show false = true from h)), (fun h => Bool.noConfusion (show false = true from h)), (fun h => Bool.noConfusion (show false = true from h)), (fun h => Bool.noConfusion (show false = true from h)), (fun h => Bool.noConfusion (show false = true from h)), (fun h => Bool.noConfusion (show false = true from h)), trivial⟩ (fun h k => newer_trans h k) (pickD_stable _ ⟨vIs_st, vIs_st, vIs_st, vIs_st, vIs_st, vIs_st, vIs_st, vIs_st, vIs_st, vIs_st, vIs_st, vIs_st, vIs_st, vIs_st, vIs_st, vIs_st, vIs_st, vIs_st, vIs_st, vIs_st, vIs_st, vIs_st, trivial⟩) (Below.refl _ wo).drew (Below.refl _ _) ?_ ?_)
            · refine ⟨.inr ?_, .inr ?_, .inr ?_, .inr ?_, .inr ?_, .inr ?_, .inr ?_, .inr ?_, .inr ?_, .inr ?_, .inr ?_, .inr ?_, .inr ?_, .inr ?_, .inr ?_, .inr ?_, .inr ?_, .inr ?_, .inr ?_, .inr ?_, .inr ?_, .inr ?_, trivial⟩
              · intro a W hG hR hO hp
                have h9 := hO.slot 9 (by kernel_rfl)
                refine wp_yields (v := .slice A2 LB.length c2) ?_ ⟨_, rfl, rfl, Below.refl _ _, hG⟩
                simp [slotOf] at h9
                simp [execOp, go_sem, h9]
              · intro a W hG hR hO hp
                have h8 := hO.slot 8 (by kernel_rfl)
                refine wp_yields (v := .slice (some ⟨ab, ao, none⟩) LA.length c1) ?_ ⟨_, rfl, rfl, Below.refl _ _, hG⟩
                simp [slotOf] at h8
                simp [execOp, go_sem, h8]
              · intro a W hG hR hO hp
                have h14 := hO.slot 14 (by kernel_rfl)
                refine wp_yields (v := vi i) ?_ ⟨_, rfl, rfl, Below.refl _ _, hG⟩
                simp [slotOf] at h14
                simp [execOp, go_sem, h14]
              · intro a W hG hR hO hp
                have h71 : slotOf a 71 = .slice (some ⟨ab, ao, none⟩) LA.length c1 := hp.1
                have h72 : slotOf a 72 = vi i := hp.2.1
                refine wp_yields (v := .pointer (some ⟨ab, ao + i, none⟩)) ?_ ⟨_, rfl, rfl, Below.refl _ _, hG⟩
                simp [slotOf] at h71 h72
                simp [execOp, go_sem, h71, h72, hii]
              · intro a W hG hR hO hp
                have h73 : slotOf a 73 = .pointer (some ⟨ab, ao + i, none⟩) := hp.1
                have c0 := keep_cell ca hG
                refine wp_yields (v := vi x) ?_ ⟨_, rfl, rfl, Below.refl _ _, hG⟩
                simp [slotOf] at h73
                simp [execOp, go_sem, h73, c0]
              · intro a W hG hR hO hp
                have h70 : slotOf a 70 = .slice A2 LB.length c2 := hp.1
                have h74 : slotOf a 74 = vi x := hp.2.1
                refine wp_enters (f := 41) (args := #[.slice A2 LB.length c2, vi x]) ?_ ((HAS.out W hG).mono ?_)
                · simp [slotOf] at h70 h74
                  simp [go_sem, h70, h74]
                · rintro e w' ⟨rfl, hb⟩
                  exact ⟨_, rfl, _, rfl, rfl, hb, below_next hG hb⟩
              · intro a W hG hR hO hp
                have h75 : slotOf a 75 = .bool true := hp.1
                refine wp_yields (v := .bool false) ?_ ⟨_, rfl, rfl, Below.refl _ _, hG⟩
                simp [slotOf] at h75
                simp [execOp, go_sem, h75]
              · intro a W hG hR hO hp
                have h76 : slotOf a 76 = .bool false := hp.1
                refine wp_yields (v := .bool false) ?_ ⟨_, rfl, rfl, Below.refl _ _, hG⟩
                simp [slotOf] at h76
                simp [execOp, go_sem, h76]
              · intro a W hG hR hO hp
                have h14 := hO.slot 14 (by kernel_rfl)
                refine wp_yields (v := vi i) ?_ ⟨_, rfl, rfl, Below.refl _ _, hG⟩
                simp [slotOf] at h14
                simp [execOp, go_sem, h14]
              · intro a W hG hR hO hp
                have h78 : slotOf a 78 = vi i := hp.1
                refine wp_yields (v := .bool true) ?_ ⟨_, rfl, rfl, Below.refl _ _, hG⟩
                simp [slotOf] at h78
                simp [execOp, go_sem, h78, hip]
              · intro a W hG hR hO hp
                have h79 : slotOf a 79 = .bool true := hp.1
                refine wp_yields (v := .bool true) ?_ ⟨_, rfl, rfl, Below.refl _ _, hG⟩
                simp [slotOf] at h79
                simp [execOp, go_sem, h79]
              · intro a W hG hR hO hp
                have h8 := hO.slot 8 (by kernel_rfl)
                refine wp_yields (v := .slice (some ⟨ab, ao, none⟩) LA.length c1) ?_ ⟨_, rfl, rfl, Below.refl _ _, hG⟩
                simp [slotOf] at h8
                simp [execOp, go_sem, h8]
              · intro a W hG hR hO hp
                have h14 := hO.slot 14 (by kernel_rfl)
                refine wp_yields (v := vi i) ?_ ⟨_, rfl, rfl, Below.refl _ _, hG⟩
                simp [slotOf] at h14
                simp [execOp, go_sem, h14]
              · intro a W hG hR hO hp
                have h81 : slotOf a 81 = .slice (some ⟨ab, ao, none⟩) LA.length c1 := hp.1
                have h82 : slotOf a 82 = vi i := hp.2.1
                refine wp_yields (v := .pointer (some ⟨ab, ao + i, none⟩)) ?_ ⟨_, rfl, rfl, Below.refl _ _, hG⟩
                simp [slotOf] at h81 h82
                simp [execOp, go_sem, h81, h82, hii]
              · intro a W hG hR hO hp
                have h83 : slotOf a 83 = .pointer (some ⟨ab, ao + i, none⟩) := hp.1
                have c0 := keep_cell ca hG
                refine wp_yields (v := vi x) ?_ ⟨_, rfl, rfl, Below.refl _ _, hG⟩
                simp [slotOf] at h83
                simp [execOp, go_sem, h83, c0]
              · intro a W hG hR hO hp
                have h8 := hO.slot 8 (by kernel_rfl)
                refine wp_yields (v := .slice (some ⟨ab, ao, none⟩) LA.length c1) ?_ ⟨_, rfl, rfl, Below.refl _ _, hG⟩
                simp [slotOf] at h8
                simp [execOp, go_sem, h8]
              · intro a W hG hR hO hp
                have h14 := hO.slot 14 (by kernel_rfl)
                refine wp_yields (v := vi i) ?_ ⟨_, rfl, rfl, Below.refl _ _, hG⟩
                simp [slotOf] at h14
                simp [execOp, go_sem, h14]
              · intro a W hG hR hO hp
                have h86 : slotOf a 86 = vi i := hp.1
                refine wp_yields (v := vi i1) ?_ ⟨_, rfl, rfl, Below.refl _ _, hG⟩
                simp [slotOf] at h86
                simp [execOp, go_sem, h86, ei1]
              · intro a W hG hR hO hp
                have h85 : slotOf a 85 = .slice (some ⟨ab, ao, none⟩) LA.length c1 := hp.1
                have h87 : slotOf a 87 = vi i1 := hp.2.1
                refine wp_yields (v := .pointer (some ⟨ab, ao + i1, none⟩)) ?_ ⟨_, rfl, rfl, Below.refl _ _, hG⟩
                simp [slotOf] at h85 h87
                simp [execOp, go_sem, h85, h87, hi1]
              · intro a W hG hR hO hp
                have h88 : slotOf a 88 = .pointer (some ⟨ab, ao + i1, none⟩) := hp.1
                have c0 := keep_cell cb hG
                refine wp_yields (v := vi y) ?_ ⟨_, rfl, rfl, Below.refl _ _, hG⟩
                simp [slotOf] at h88
                simp [execOp, go_sem, h88, c0]
              · intro a W hG hR hO hp
                have h84 : slotOf a 84 = vi x := hp.1
                have h89 : slotOf a 89 = vi y := hp.2.1
                refine wp_yields (v := .bool false) ?_ ⟨_, rfl, rfl, Below.refl _ _, hG⟩
                simp [slotOf] at h84 h89
                simp [execOp, go_sem, h84, h89, hxy]
              · intro a W hG hR hO hp
                have h80 : slotOf a 80 = .bool true := hp.1
                have h90 : slotOf a 90 = .bool false := hp.2.1
                refine wp_yields (v := .bool false) ?_ ⟨_, rfl, rfl, Below.refl _ _, hG⟩
                simp [slotOf] at h80 h90
                simp [execOp, go_sem, h80, h90]
            · intro wz hG hR
              rintro _ rfl _ rfl _ rfl _ rfl _ rfl _ rfl _ rfl _ rfl _ rfl _ rfl _ rfl _ rfl _ rfl _ rfl _ rfl _ rfl _ rfl _ rfl _ rfl _ rfl _ rfl _ rfl
              change wpList _ _ _ _ _ _
              simp only [Act.put, List.setIfInBounds_toArray, List.set_cons_zero, List.set_cons_succ, List.drop_succ_cons, List.drop_zero]
              have H21 := Lib.hid (And.intro ((newer_trans H19.out.1 hG)) (And.intro ((H19.out.2.1.below hG H19.out.2.1.lt)) (And.intro (((H19.out.2.2.1.below hG).more hG.size)) (((H19.out.2.2.2.below hG).more hG.size)))))
              clear hG hR HAS ca cb H19
              go_wp2_with fail
              refine ⟨⟨i + 1, rfl, by omega, H21.out.1, H21.out.2.1, H21.out.2.2.1, H21.out.2.2.2⟩, ?_⟩
              simp [intOf]
              omega
        · obtain rfl : i = LA.length := by omega
          have x0 := H19.out.2.1.at 0 (v := .slice s.a s.cs.length s.c) rfl
          have x1 := H19.out.2.1.at 1 (v := vi s.least) rfl
          go_wp2_with fail
          refine (HPA.out _ H19.out.1).mono ?_
          rintro e w22 ⟨u, rfl, huo, ⟨k0, l, hf, hl, hsf⟩, hb⟩
          have H23 := Lib.hid (And.intro ((newer_trans H19.out.1 hb)) (And.intro ((H19.out.2.1.below hb H19.out.2.1.lt)) (And.intro (((H19.out.2.2.1.below hb).more hb.size)) (((H19.out.2.2.2.below hb).more hb.size)))))
          clear hb HPA H19 x0 x1
          have e6 := newer_allocH w22 (.cells (suC u) 27)
          have hub := Whole.made w22 27 (suC u)
          have H24 := Lib.hid (And.intro ((newer_trans H23.out.1 e6)) (And.intro ((H23.out.2.1.below e6 H23.out.2.1.lt)) (And.intro (((H23.out.2.2.1.below e6).more e6.size)) (And.intro (((H23.out.2.2.2.below e6).more e6.size)) (And.intro (hub) (huo.next e6))))))
          clear e6 hub huo H23
          obtain ⟨eb, e5, r0, r1, hk⟩ := surf_known HSD.out hf hl hsf
          have HK := Lib.hid hk
          have hul : u.beds.length ≤ 12 := by have h1 := hsf.2.1; have h2 := HSD.out.cols; rw [sd_len] at h2; rw [hl, List.length_map]; omega
          have HUL := Lib.hid (show u.beds.length ≤ 1000 by omega)
          have hfm : 0 ≤ u.frm ∧ u.frm ≤ 12 := by have h1 := hsf.2.1; have h2 := HSD.out.cols; rw [sd_len] at h2; omega
          have HSU := Lib.hid (fun he => HSPN.out u.frm u.beds k0 l hf hl hsf he)
          have HSP : Hid (∀ (s2 : Sm) (u2 : Su) W, s2.sd = s.sd → SmOk s2 W → u2.frm = u.frm → u2.beds = u.beds → SuOk u2 W → Calls Try.prog 18 #[smV s2, suV u2] W fun e w' => e = .returned (.tuple #[.agg #[vi r0, vi r1], vi e5]) ∧ newer W w') := Lib.hid (fun s2 u2 W h1 h2 h3 h4 h5 => by
            have h6 := span_any s2 u2 W h2 (few_sd h1 HFW.out) h5 (by rw [h4]; exact HUL.out)
            rw [h1, h3, h4, spanV_is, HK.out.sp.1, HK.out.sp.2.1, HK.out.sp.2.2] at h6
            exact h6)
          have HUK := Lib.hid (And.intro HUL.out H24.out.2.2.2.2.2)
          clear hf hl hsf eb hk
          have x0 := H24.out.2.1.at 0 (v := .slice s.a s.cs.length s.c) rfl
          have x1 := H24.out.2.1.at 1 (v := vi s.least) rfl
          have u0 := H24.out.2.2.2.2.1.at 0 (v := vi u.frm) rfl
          have u1 := H24.out.2.2.2.2.1.at 1 (v := .slice u.a u.beds.length u.c) rfl
          go_upto_region 14 with fail
          refine wp_words (by kernel_rfl) (region_late 10 9 (by kernel_rfl) (by kernel_rfl) (by decide) (by kernel_rfl) (fun W => Below (w22.alloc (.cells (suC u) 27)).heap.size (w22.alloc (.cells (suC u) 27)) W) (pickB [vIs (smV s), vSlo s.sd, vIs (suV u), vSuf u.frm u.beds, vIs (.tuple #[.agg #[vi r0, vi r1], vi e5]), vIs (.tuple #[.agg #[vi r0, vi r1], vi e5]), vIs (.agg #[vi r0, vi r1]), vIs (vi e5), vNew (w22.alloc (.cells (suC u) 27)).heap.size 31 #[vi 0, vi 0], (fun _ _ => True)] [(fun _ _ => True), (fun _ _ => True), (fun _ _ => True), (fun _ _ => True), (fun _ _ => True), vIs (.tuple #[.agg #[vi r0, vi r1], vi e5]), (fun _ _ => True), vIs (vi e5), vNew (w22.alloc (.cells (suC u) 27)).heap.size 31 #[vi r0, vi r1], (fun _ _ => True)]) (pickB_stable ⟨vIs_st, vSlo_st, vIs_st, vSuf_st, vIs_st, vIs_st, vIs_st, vIs_st, vNew_st, (fun _ _ _ h _ => h), trivial⟩ ⟨(fun _ _ _ h _ => h), (fun _ _ _ h _ => h), (fun _ _ _ h _ => h), (fun _ _ _ h _ => h), (fun _ _ _ h _ => h), vIs_st, (fun _ _ _ h _ => h), vIs_st, vNew_st, (fun _ _ _ h _ => h), trivial⟩) (Below.refl _ (w22.alloc (.cells (suC u) 27))).drew ?_ ?_)
          · refine ⟨?_, ?_, ?_, ?_, ?_, ?_, ?_, ?_, ?_, ?_, trivial⟩
            · intro a W hG hO hp
              have h3 := hO.slot 3 (by kernel_rfl)
              have c0 := keep_cell x0 hG
              have c1 := keep_cell x1 hG
              refine wp_yields (v := smV s) ?_ ⟨_, rfl, rfl, Below.refl _ _, hG⟩
              simp [slotOf] at h3
              simp [execOp, go_sem, h3, c0, c1]
            · intro a W hG hO hp
              have h97 : slotOf a 97 = smV s := hp.1
              refine wp_enters (f := 19) (args := #[smV s]) ?_ ((lawSlope s W (HOK.out.1.next (newer_trans H24.out.1 hG)) HFW.out).mono ?_)
              · simp [slotOf] at h97
                simp [go_sem, h97]
              · rintro e w' ⟨s2, rfl, h1, h2, hb⟩
                exact ⟨_, rfl, _, rfl, ⟨s2, rfl, h1, h2⟩, hb, below_next hG hb⟩
            · intro a W hG hO hp
              have h15 := hO.slot 15 (by kernel_rfl)
              have c0 := keep_cell u0 hG
              have c1 := keep_cell u1 hG
              refine wp_yields (v := suV u) ?_ ⟨_, rfl, rfl, Below.refl _ _, hG⟩
              simp [slotOf] at h15
              simp [execOp, go_sem, h15, c0, c1]
            · intro a W hG hO hp
              have h99 : slotOf a 99 = suV u := hp.1
              refine wp_enters (f := 20) (args := #[suV u]) ?_ ((lawSurface u W (HUK.out.2.next hG) HUK.out.1).mono ?_)
              · simp [slotOf] at h99
                simp [go_sem, h99]
              · rintro e w' ⟨u2, rfl, h1, h2, h3, hb⟩
                exact ⟨_, rfl, _, rfl, ⟨u2, rfl, h1, h2, h3⟩, hb, below_next hG hb⟩
            · intro a W hG hO hp
              have h98 := hp.1
              have h100 := hp.2.1
              obtain ⟨s2, h98, hd2, hs2⟩ := h98
              obtain ⟨u2, h100, hf2, hl2, hu2⟩ := h100
              have hsp := HSP.out s2 u2 W hd2 hs2 hf2 hl2 hu2
              refine wp_enters (f := 18) (args := #[smV s2, suV u2]) ?_ (hsp.mono ?_)
              · simp [slotOf] at h98 h100
                simp [go_sem, h98, h100]
              · rintro e w' ⟨rfl, hb⟩
                exact ⟨_, rfl, _, rfl, rfl, hb, below_next hG hb⟩
            · intro a W hG hO hp
              have h101 : slotOf a 101 = .tuple #[.agg #[vi r0, vi r1], vi e5] := hp.1
              refine wp_yields (v := .tuple #[.agg #[vi r0, vi r1], vi e5]) ?_ ⟨_, rfl, rfl, Below.refl _ _, hG⟩
              simp [slotOf] at h101
              simp [execOp, go_sem, h101]
            · intro a W hG hO hp
              have h96 : slotOf a 96 = .tuple #[.agg #[vi r0, vi r1], vi e5] := hp.1
              refine wp_yields (v := .agg #[vi r0, vi r1]) ?_ ⟨_, rfl, rfl, Below.refl _ _, hG⟩
              simp [slotOf] at h96
              simp [execOp, go_sem, h96]
            · intro b a W hG hO hp
              have h96 : slotOf a 96 = .tuple #[.agg #[vi r0, vi r1], vi e5] := by cases b <;> exact hp.1
              refine wp_yields (v := vi e5) ?_ ⟨_, rfl, (by cases b <;> rfl), Below.refl _ _, hG⟩
              simp [slotOf] at h96
              simp [execOp, go_sem, h96]
            · intro a W hG hO hp
              refine wp_makes (v := .pointer (some ⟨W.heap.size, 0, none⟩)) (W' := W.alloc (.cells #[vi 0, vi 0] 31)) ?_ ⟨_, rfl, ⟨_, rfl, hG.size, Whole.made _ _ _⟩, newer_allocH _ _, below_next hG (newer_allocH _ _)⟩
              skip
              simp [execOp, go_sem]
            · intro a W hG hO hp
              have h16 := hp.1
              have h102 : slotOf a 102 = .agg #[vi r0, vi r1] := hp.2.1
              obtain ⟨fb, h16, hfb, hwf⟩ := h16
              have b0 := hwf.at 0 rfl
              have b1 := hwf.at 1 rfl
              have f0 := hwf.free 0
              have f1 := hwf.free 1
              have hq := h16
              simp [slotOf] at h16 h102
              refine wp_storesE (W' := (W.setCell ⟨fb, 0, none⟩ (vi r0)).setCell ⟨fb, 1, none⟩ (vi r1)) (by simp [execOp, go_sem, h16, h102, b0, b1, f0, f1]) ⟨rfl, (hG.setCell (p := ⟨fb, 0, none⟩) hfb _).setCell (p := ⟨fb, 1, none⟩) hfb _, ?_⟩
              intro j oj d hj hoj hd hD
              match j, hoj, hD with
              | 0, _, _ => trivial
              | 1, _, _ => trivial
              | 2, _, _ => trivial
              | 3, _, _ => trivial
              | 4, _, _ => trivial
              | 5, _, hD =>
                exact hD
              | 6, _, _ => trivial
              | 7, _, hD =>
                exact hD
              | 8, hoj, _ =>
                obtain rfl := Option.some.inj hoj
                obtain rfl := Option.some.inj hd
                exact ⟨fb, hq, hfb, (hwf.set 0 _).set 1 _⟩
              | 9, _, _ => trivial
              | (_ + 10), _, _ => omega
          · intro wz4 hG
            rintro _ - _ - _ - _ - _ - _ - _ - _ rfl _ ⟨fb, rfl, hfb, hwf⟩
            change wpList _ _ _ _ _ _
            simp only [Act.put, List.setIfInBounds_toArray, List.set_cons_zero, List.set_cons_succ, List.drop_succ_cons, List.drop_zero]
            have H25 := Lib.hid (And.intro ((newer_trans H24.out.1 hG)) (And.intro ((H24.out.2.1.below hG H24.out.2.1.lt)) (And.intro (((H24.out.2.2.1.below hG).more hG.size)) (And.intro (((H24.out.2.2.2.1.below hG).more hG.size)) (And.intro ((H24.out.2.2.2.2.1.below hG H24.out.2.2.2.2.1.lt)) (And.intro ((H24.out.2.2.2.2.2.next hG)) (hwf)))))))
            clear hG hfb hwf HUK HSP H24 x0 x1 u0 u1
            rcases HK.out.eor with rfl | rfl
            · go_wp2_with fail
              refine (wakes_any _).mono ?_
              rintro e w26 ⟨rfl, hb⟩
              have H27 := Lib.hid (And.intro ((newer_trans H25.out.1 hb)) (And.intro ((H25.out.2.1.below hb H25.out.2.1.lt)) (And.intro (((H25.out.2.2.1.below hb).more hb.size)) (And.intro (((H25.out.2.2.2.1.below hb).more hb.size)) (And.intro ((H25.out.2.2.2.2.1.below hb H25.out.2.2.2.2.1.lt)) (And.intro ((H25.out.2.2.2.2.2.1.next hb)) ((H25.out.2.2.2.2.2.2.below hb H25.out.2.2.2.2.2.2.lt))))))))
              clear hb H25
              go_wp2_with fail
              go_ret
              exact ⟨rfl, H27.out.1⟩
            · have HS2 := Lib.hid (HSU.out HK.out.sp.1)
              rw [HK.out.sp.2.1, HK.out.sp.2.2] at HS2
              have u0 := H25.out.2.2.2.2.1.at 0 (v := vi u.frm) rfl
              have u1 := H25.out.2.2.2.2.1.at 1 (v := .slice u.a u.beds.length u.c) rfl
              go_wp2_with fail
              go_loopw [18] (fun s18 wr => ∃ i : Nat, s18 = vi i ∧ i ≤ u.beds.length ∧ newer w wr ∧ Whole wr w22.heap.size 27 (suC u) ∧ Whole wr fb 31 #[vi r0, vi r1] ∧ Row intL 1 wr wr.heap.size A1 LA ∧ Row intL 1 wr wr.heap.size A2 LB) (fun s18 _ => u.beds.length - (intOf s18).toNat)
              case atStart => exact ⟨0, rfl, Nat.zero_le _, H25.out.1, H25.out.2.2.2.2.1, H25.out.2.2.2.2.2.2, H25.out.2.2.1, H25.out.2.2.2.1⟩
              case round =>
                obtain ⟨i, rfl, hi2, q1, q2, q3, q4, q5⟩ := hrel
                clear H25 u0 u1
                have H28 := Lib.hid (And.intro (q1) (And.intro (q2) (And.intro (q3) (And.intro (q4) (q5)))))
                clear q1 q2 q3 q4 q5
                have u0 := H28.out.2.1.at 0 (v := vi u.frm) rfl
                have u1 := H28.out.2.1.at 1 (v := .slice u.a u.beds.length u.c) rfl
                have q0 := H28.out.2.2.1.at 0 (v := vi r0) rfl
                have q1 := H28.out.2.2.1.at 1 (v := vi r1) rfl
                by_cases hlt2 : i < u.beds.length
                · have hii2 : (i : Int) < u.beds.length := by omega
                  have e127 : IntKind.i64.wrap (u.frm + (i : Int)) = u.frm + i := IntWalk.i64_in _ (by omega)
                  have HS3 := Lib.hid (HS2.out i hlt2)
                  have HB_ : Hid (r0 < (f : Int) → ∀ W, newer wr W → Calls Try.prog 41 #[.slice A2 LB.length c2, vi (u.frm + i)] W fun e w' => e = .returned (.bool true) ∧ newer W w') := Lib.hid (fun h W hW => by
                    have h9 := hasL_any LB A2 c2 (u.frm + i) W (by omega) ((H28.out.2.2.2.2.below hW).more hW.size)
                    rw [decide_eq_true (HS3.out.1 h)] at h9
                    exact h9)
                  have HA_ : Hid (r1 < (f : Int) → ∀ W, newer wr W → Calls Try.prog 41 #[.slice A1 LA.length c1, vi (u.frm + i)] W fun e w' => e = .returned (.bool true) ∧ newer W w') := Lib.hid (fun h W hW => by
                    have h9 := hasL_any LA A1 c1 (u.frm + i) W (by omega) ((H28.out.2.2.2.1.below hW).more hW.size)
                    rw [decide_eq_true (HS3.out.2 h)] at h9
                    exact h9)
                  by_cases hr0 : r0 < (f : Int)
                  · by_cases hr1 : r1 < (f : Int)
                    · go_wp2_with fail
                      refine (HB_.out hr0 _ (newer_refl _)).mono ?_
                      rintro e w29 ⟨rfl, hb⟩
                      have H30 := Lib.hid (And.intro ((newer_trans H28.out.1 hb)) (And.intro ((H28.out.2.1.below hb H28.out.2.1.lt)) (And.intro ((H28.out.2.2.1.below hb H28.out.2.2.1.lt)) (And.intro (((H28.out.2.2.2.1.below hb).more hb.size)) (((H28.out.2.2.2.2.below hb).more hb.size))))))
                      clear hb H28 u0 u1 q0 q1
                      have u0 := H30.out.2.1.at 0 (v := vi u.frm) rfl
                      have u1 := H30.out.2.1.at 1 (v := .slice u.a u.beds.length u.c) rfl
                      have q0 := H30.out.2.2.1.at 0 (v := vi r0) rfl
                      have q1 := H30.out.2.2.1.at 1 (v := vi r1) rfl
                      have HA3 : Hid (Calls Try.prog 41 #[.slice A1 LA.length c1, vi (u.frm + i)] w29 fun e w' => e = .returned (.bool true) ∧ newer w29 w') := Lib.hid (by
                        have h9 := hasL_any LA A1 c1 (u.frm + i) w29 (by omega) H30.out.2.2.2.1
                        rw [decide_eq_true (HS3.out.2 hr1)] at h9
                        exact h9)
                      go_wp2_with fail
                      refine (HA3.out).mono ?_
                      rintro e w31 ⟨rfl, hb⟩
                      have H32 := Lib.hid (And.intro ((newer_trans H30.out.1 hb)) (And.intro ((H30.out.2.1.below hb H30.out.2.1.lt)) (And.intro ((H30.out.2.2.1.below hb H30.out.2.2.1.lt)) (And.intro (((H30.out.2.2.2.1.below hb).more hb.size)) (((H30.out.2.2.2.2.below hb).more hb.size))))))
                      clear hb HA3 H30 u0 u1 q0 q1
                      go_wp2_with fail
                      refine ⟨⟨i + 1, rfl, by omega, H32.out.1, H32.out.2.1, H32.out.2.2.1, H32.out.2.2.2.1, H32.out.2.2.2.2⟩, ?_⟩
                      simp [intOf]
                      omega
                    · go_wp2_with fail
                      refine (HB_.out hr0 _ (newer_refl _)).mono ?_
                      rintro e w33 ⟨rfl, hb⟩
                      have H34 := Lib.hid (And.intro ((newer_trans H28.out.1 hb)) (And.intro ((H28.out.2.1.below hb H28.out.2.1.lt)) (And.intro ((H28.out.2.2.1.below hb H28.out.2.2.1.lt)) (And.intro (((H28.out.2.2.2.1.below hb).more hb.size)) (((H28.out.2.2.2.2.below hb).more hb.size))))))
                      clear hb H28 u0 u1 q0 q1
                      have u0 := H34.out.2.1.at 0 (v := vi u.frm) rfl
                      have u1 := H34.out.2.1.at 1 (v := .slice u.a u.beds.length u.c) rfl
                      have q0 := H34.out.2.2.1.at 0 (v := vi r0) rfl
                      have q1 := H34.out.2.2.1.at 1 (v := vi r1) rfl
                      go_wp2_with fail
                      refine ⟨⟨i + 1, rfl, by omega, H34.out.1, H34.out.2.1, H34.out.2.2.1, H34.out.2.2.2.1, H34.out.2.2.2.2⟩, ?_⟩
                      simp [intOf]
                      omega
                  · by_cases hr1 : r1 < (f : Int)
                    · go_wp2_with fail
                      refine (HA_.out hr1 _ (newer_refl _)).mono ?_
                      rintro e w35 ⟨rfl, hb⟩
                      have H36 := Lib.hid (And.intro ((newer_trans H28.out.1 hb)) (And.intro ((H28.out.2.1.below hb H28.out.2.1.lt)) (And.intro ((H28.out.2.2.1.below hb H28.out.2.2.1.lt)) (And.intro (((H28.out.2.2.2.1.below hb).more hb.size)) (((H28.out.2.2.2.2.below hb).more hb.size))))))
                      clear hb H28 u0 u1 q0 q1
                      go_wp2_with fail
                      refine ⟨⟨i + 1, rfl, by omega, H36.out.1, H36.out.2.1, H36.out.2.2.1, H36.out.2.2.2.1, H36.out.2.2.2.2⟩, ?_⟩
                      simp [intOf]
                      omega
                    · go_wp2_with fail
                      refine ⟨⟨i + 1, rfl, by omega, H28.out.1, H28.out.2.1, H28.out.2.2.1, H28.out.2.2.2.1, H28.out.2.2.2.2⟩, ?_⟩
                      simp [intOf]
                      omega
                · obtain rfl : i = u.beds.length := by omega
                  go_wp2_with fail
                  refine (wakes_any _).mono ?_
                  rintro e w37 ⟨rfl, hb⟩
                  have H38 := Lib.hid (And.intro ((newer_trans H28.out.1 hb)) (And.intro ((H28.out.2.1.below hb H28.out.2.1.lt)) (And.intro ((H28.out.2.2.1.below hb H28.out.2.2.1.lt)) (And.intro (((H28.out.2.2.2.1.below hb).more hb.size)) (((H28.out.2.2.2.2.below hb).more hb.size))))))
                  clear hb H28 u0 u1 q0 q1
                  go_wp2_with fail
                  go_ret
                  exact ⟨rfl, H38.out.1⟩
end
set_option maxRecDepth 100000 in
set_option maxHeartbeats 1000000 in
theorem slopeMoving_lifted (os : Os) (started : os.Started) (H : Type) (enc : TypeId × Value → H) :
    ReturnsInHanded {} Try.checked os 9 .any (Rows.slopeMovingSpec.pre6 enc Try.prog Try.f9 Rows.slopeMovingRow.domain false) (Rows.slopeMovingSpec.post enc Try.prog Try.f9 false true false false) := by
  refine returnsInHanded_of_change (C := Try.checked) Try.own started (by kernel_rfl) Try.func9
    (ChangeSpec.witness6 (enc := enc) (C := Try.checked) false ⟨#[], #[.agg #[.slice none 0 0, .int .i64 0], .slice none 0 0, .int .u16 0], []⟩ 8 (by kernel_rfl) (by kernel_rfl) (by kernel_rfl) (by kernel_rfl)) ?_
  intro W base args ds gs before hval0 hW hcnd _
  have hval : ∀ (j : Nat) t v, Try.f9.params[j]? = some t → args[j]? = some v → Value.okWide Try.prog W .any base t v := hval0
  have hW' := hW
  obtain ⟨p, q, hA0, hV, rfl, hfz, hnd⟩ := hW
  have hA : DataW.TrodAll enc Try.prog W 0 (fun _ => true) true Try.f9.params.toList args.toList ds p := hA0
  rw [Try.params9] at hA hval
  obtain ⟨v0, vs0, d0, ds0, p0, q0, hargs, rfl, rfl, h0, r0⟩ := trodAll_cons hA
  obtain ⟨v1, vs1, d1, ds1, p1, q1, rfl, rfl, rfl, h1, r1⟩ := trodAll_cons r0
  obtain ⟨v2, vs2, d2, ds2, p2, q2, rfl, rfl, rfl, h2, r2⟩ := trodAll_cons r1
  obtain ⟨rfl, rfl, rfl⟩ := trodAll_nil r2
  obtain rfl : args = #[v0, v1, v2] := by cases args; simp_all
  obtain ⟨rfl, rfl⟩ := trodVars_none hV
  obtain ⟨c0, rfl, hs0⟩ := okWide_struct Try.underlying24 (hval 0 24 v0 rfl rfl)
  have k0 := h0
  have lt0 : ∀ x ∈ p0, x.block < W.heap.size := by obtain ⟨m, hm⟩ := k0; exact DataW.trod_lt m _ _ _ hm
  obtain ⟨g0, e0, hrow0⟩ : ∃ p : Sm, c0.toList = (smC p).toList ∧ SmOk p W := by
    obtain ⟨fuel, hf⟩ := h0
    exact slope_open hf
  obtain rfl : c0 = smC g0 := Array.toList_inj.1 e0
  obtain ⟨a1, len1, cap1, rfl⟩ := okWide_slice Try.underlying65 (hval 1 65 v1 rfl rfl)
  have k1 := h1
  have lt1 : ∀ x ∈ p1, x.block < W.heap.size := by obtain ⟨m, hm⟩ := k1; exact DataW.trod_lt m _ _ _ hm
  obtain ⟨D1, l1, dp1, e1, hl1, hrow1⟩ : ∃ (D : Option Addr) (l : List Byt) (dp : Nat), (Value.slice a1 len1 cap1).cells.toList = [.slice D l.length dp] ∧ l.length ≤ maxLen ∧ Row byL 1 W W.heap.size D l := by
    obtain ⟨fuel, hf⟩ := h1
    exact bytes_open hf
  simp [Value.cells] at e1
  obtain ⟨rfl, rfl, rfl⟩ := e1
  obtain ⟨a2, rfl, rfl, rfl, w2⟩ := open_int Try.underlying62 (hval 2 62 v2 rfl rfl) h2
  have hb2 := bounds_u16 w2
  clear hA0 hval0
  refine (slopeMoving_walk g0 l1 a1 cap1 a2 W hb2.1 hb2.2 hrow0 hrow1).mono fun e W' ⟨he, bel⟩ => ?_
  subst he
  exact ⟨_, rfl, _, _, _, [], _, [], hW', trodAll_mk1 (shut_bool Try.underlying4 _), (trodAll_cons_mk (Below.trod Try.laidOut (by kernel_rfl) (of_decide_eq_true (by kernel_rfl)) k0 bel lt0) (trodAll_cons_mk (Below.trod Try.laidOut (by kernel_rfl) (of_decide_eq_true (by kernel_rfl)) k1 bel lt1) (trodAll_cons_mk (shut_int Try.underlying62 w2) trodAll_mk0))), rfl, bel.frame _, fun h => by cases h⟩

theorem slopeMoving_holds : Rows.SlopeMovingSaid :=
  OpenClaim.holds_of_wide 9 Try.f9 rfl rfl rfl rfl rfl rfl rfl ⟨rfl, rfl, rfl, rfl, rfl⟩ rfl rfl rfl rfl rfl (by kernel_rfl) Try.func9 (by kernel_rfl)
    (of_decide_eq_true (by kernel_rfl)) (by unfold Func.isWrapper; first | (rw [if_pos (by decide +kernel)]; kernel_rfl) | (rw [if_neg (by decide +kernel)]; exact ⟨rfl, rfl⟩))
    (fun os started H enc _ => slopeMoving_lifted os started H enc)
#print axioms slopeMoving_holds

end Go.Proofs.Ytkenokpobbichaa
