/- SlopeTruth returns true: in each truth the factor of a surface lies in its span, and is not below the least factor; both ends of the span are reached. -/
import Derived.Test.YtkenokpobbichaaBL
import Derived.Test.YtkenokpobbichaaBG
import Derived.Test.YtkenokpobbichaaY
namespace Go.Proofs.Ytkenokpobbichaa
open Go.ChangeShapes Go.WideShapes Go.ChangeAt Go.RowKit Go.Deep

section
open Go.RowKit Go.Shelf Go.Deep
/-- What is known of the factor in a truth. -/
def FacK (s : Sd) (frm : Int) (l : List Int) (e lo hi : Int) (tl : List Rl) : Prop := tl.length ≤ 1000 ∧ (e = 7 → (facO s frm l tl).2 = 7) ∧ (e = 0 → (facO s frm l tl).2 = 0 ∧ lo ≤ (facO s frm l tl).1 ∧ (facO s frm l tl).1 ≤ hi)
/-- A truth in memory, the factor in which is known. -/
def vTruK (s : Sd) (frm : Int) (l : List Int) (e lo hi : Int) (v : Value) (W : World) : Prop := ∃ A c tl, v = .slice A (tl : List Rl).length c ∧ Row rlL 3 W W.heap.size A tl ∧ FacK s frm l e lo hi tl
theorem vTruK_st {s : Sd} {frm : Int} {l : List Int} {e lo hi : Int} : ∀ v W W', vTruK s frm l e lo hi v W → newer W W' → vTruK s frm l e lo hi v W' := fun _ _ _ ⟨A, c, tl, h1, h2, h3⟩ hb => ⟨A, c, tl, h1, (h2.below hb).more hb.size, h3⟩
def vFac (e lo hi : Int) (v : Value) (_ : World) : Prop := ∃ p q, v = .tuple #[vi p, vi q] ∧ (e = 7 → q = 7) ∧ (e = 0 → q = 0 ∧ lo ≤ p ∧ p ≤ hi)
theorem vFac_st {e lo hi : Int} : ∀ v W W', vFac e lo hi v W → newer W W' → vFac e lo hi v W' := fun _ _ _ h _ => h
def vFp (e lo hi : Int) (v : Value) (_ : World) : Prop := ∃ p, v = vi p ∧ (e = 0 → lo ≤ p ∧ p ≤ hi)
theorem vFp_st {e lo hi : Int} : ∀ v W W', vFp e lo hi v W → newer W W' → vFp e lo hi v W' := fun _ _ _ h _ => h
def vFq (e : Int) (v : Value) (_ : World) : Prop := ∃ q, v = vi q ∧ (e = 7 → q = 7) ∧ (e = 0 → q = 0)
theorem vFq_st {e : Int} : ∀ v W W', vFq e v W → newer W W' → vFq e v W' := fun _ _ _ h _ => h
theorem fits_len {bs : List Bd} {tl : List Rl} (h : fitsA bs tl = true) : tl.length = bs.length := (fitsA_iff.1 h).1
set_option maxRecDepth 100000 in
set_option maxHeartbeats 4000000 in
theorem slopeTruth_walk (s : Sm) (ws : List Byt) (wa : Option Addr) (wc : Nat) (hs : List Hlf) (HA : Option Addr) (hc : Nat) (w : World) (hok : SmOk s w) (hwr : Row byL 1 w w.heap.size wa ws) (hhr : Row hwL 1 w w.heap.size HA hs) : Calls Try.prog 11 #[smV s, .slice wa ws.length wc, .slice HA hs.length hc] w fun e w' => e = .returned (.bool true) ∧ newer w w' := by
  have hnw := newer_allocH w (.cells (smC s) 24)
  have hxb := Whole.made w 24 (smC s)
  have H1 := Lib.hid (And.intro (hnw) (hxb))
  clear hnw hxb
  have HOK := Lib.hid (And.intro hok (And.intro hwr hhr))
  have HRD := Lib.hid (ready_any s _ (hok.next H1.out.1))
  clear hok hwr hhr
  have x0 := H1.out.2.at 0 (v := .slice s.a s.cs.length s.c) rfl
  have x1 := H1.out.2.at 1 (v := vi s.least) rfl
  cases hr : readyB s.sd with
  | false =>
    rw [hr] at HRD
    clear hr
    go_enter Try.func11, Try.ntmps11
    go_wp2_with fail
    refine (HRD.out).mono ?_
    rintro e w2 ⟨rfl, hb⟩
    have H3 := Lib.hid (And.intro ((newer_trans H1.out.1 hb)) ((H1.out.2.below hb H1.out.2.lt)))
    clear hb HRD H1 x0 x1
    go_wp2_with fail
    refine (wakes_any _).mono ?_
    rintro e w4 ⟨rfl, hb⟩
    have H5 := Lib.hid (And.intro ((newer_trans H3.out.1 hb)) ((H3.out.2.below hb H3.out.2.lt)))
    clear hb H3
    go_wp2_with fail
    go_ret
    exact ⟨rfl, H5.out.1⟩
  | true =>
    rw [hr] at HRD
    obtain ⟨hsd, few, hle⟩ := ready_ok hr
    have HFW := Lib.hid few
    have HSD := Lib.hid hsd
    clear hr
    have HPA : Hid (∀ W, newer w W → Calls Try.prog 40 #[smV s, .slice wa ws.length wc] W fun e w' => ∃ u : Su, e = .returned (suV u) ∧ SuOk u w' ∧ (∃ k l, u.frm = (k : Nat) ∧ u.beds = l.map (fun x : Nat => (x : Int)) ∧ SurfB s.sd.n s.cs.length s.sd.K k l) ∧ newer W w') := Lib.hid (fun W hW => path_any s ws wa wc W (HOK.out.1.next hW) ((HOK.out.2.1.below hW).more hW.size) hsd hle)
    have HSL : Hid (∀ W, newer w W → Calls Try.prog 19 #[smV s] W fun e w' => ∃ s2 : Sm, e = .returned (smV s2) ∧ (∀ W2, newer w' W2 → Calls Try.prog 25 #[smV s2] W2 fun e w3 => ∃ (a : Int) (A : Option Addr) (n c : Nat), e = .returned (.tuple #[.agg #[vi a, .slice A n c], vi (wV s.sd), vi (wE s.sd)]) ∧ newer W2 w3) ∧ newer W w') := Lib.hid (fun W hW => slope_chain s _ W (HOK.out.1.next hW) rfl hsd)
    have h0 := wE_is s.sd
    obtain ⟨e0, he0⟩ : ∃ e, e = wE s.sd := ⟨_, rfl⟩
    obtain ⟨v0, hv0⟩ : ∃ v, v = wV s.sd := ⟨_, rfl⟩
    rw [← he0] at h0
    have HEV := Lib.hid (And.intro he0 (And.intro hv0 h0))
    rw [← he0, ← hv0] at HSL
    clear h0 he0 hv0 hsd few hle
    go_enter Try.func11, Try.ntmps11
    go_wp2_with fail
    refine (HRD.out).mono ?_
    rintro e w6 ⟨rfl, hb⟩
    have H7 := Lib.hid (And.intro ((newer_trans H1.out.1 hb)) ((H1.out.2.below hb H1.out.2.lt)))
    clear hb HRD H1 x0 x1
    have x0 := H7.out.2.at 0 (v := .slice s.a s.cs.length s.c) rfl
    have x1 := H7.out.2.at 1 (v := vi s.least) rfl
    go_wp2_with fail
    refine (HPA.out _ H7.out.1).mono ?_
    rintro e w8 ⟨u, rfl, huo, ⟨k0, l, hf, hl, hsf⟩, hb⟩
    have H9 := Lib.hid (And.intro ((newer_trans H7.out.1 hb)) ((H7.out.2.below hb H7.out.2.lt)))
    clear hb HPA H7 x0 x1
    have e6 := newer_allocH w8 (.cells (suC u) 27)
    have hub := Whole.made w8 27 (suC u)
    have H10 := Lib.hid (And.intro ((newer_trans H9.out.1 e6)) (And.intro ((H9.out.2.below e6 H9.out.2.lt)) (And.intro (hub) (huo.next e6))))
    clear e6 hub huo H9
    obtain ⟨eb, e5, r0, r1, hk⟩ := surf_known HSD.out hf hl hsf
    have HK := Lib.hid hk
    have hul : u.beds.length ≤ 1000 := by have h1 := hsf.2.1; have h2 := HSD.out.cols; rw [sd_len] at h2; rw [hl, List.length_map]; omega
    have HUL := Lib.hid hul
    have HSP : Hid (∀ (s2 : Sm) (u2 : Su) W, s2.sd = s.sd → SmOk s2 W → u2.frm = u.frm → u2.beds = u.beds → SuOk u2 W → Calls Try.prog 18 #[smV s2, suV u2] W fun e w' => e = .returned (.tuple #[.agg #[vi r0, vi r1], vi e5]) ∧ newer W w') := Lib.hid (fun s2 u2 W h1 h2 h3 h4 h5 => by
      have h6 := span_any s2 u2 W h2 (few_sd h1 HFW.out) h5 (by rw [h4]; exact HUL.out)
      rw [h1, h3, h4, spanV_is, HK.out.sp.1, HK.out.sp.2.1, HK.out.sp.2.2] at h6
      exact h6)
    have HFP : Hid (∀ (s2 : Sm) (u2 : Su) (B : Option Addr) (d : Nat) (tl : List Rl) W, s2.sd = s.sd → SmOk s2 W → u2.frm = u.frm → u2.beds = u.beds → SuOk u2 W → Row rlL 3 W W.heap.size B tl → tl.length ≤ 1000 → Calls Try.prog 42 #[smV s2, suV u2, .slice B tl.length d] W fun e w' => e = .returned (.tuple #[vi (facO s.sd u.frm u.beds tl).1, vi (facO s.sd u.frm u.beds tl).2]) ∧ newer W w') := Lib.hid (fun s2 u2 B d tl W h1 h2 h3 h4 h5 h6 h8 => by
      have h7 := factorP_any s2 u2 tl B d W h2 (few_sd h1 HFW.out) h5 (by rw [h4]; exact HUL.out) h8 h6
      rw [h1, h3, h4] at h7
      exact h7)
    have HPI : Hid (∀ W, newer w W → SuOk u W → Calls Try.prog 44 #[smV s, suV u, .slice HA hs.length hc] W fun e w' => ∃ A c tl, e = .returned (.slice A (tl : List Rl).length c) ∧ Row rlL 3 w' w'.heap.size A tl ∧ FacK s.sd u.frm u.beds e5 r0 r1 tl ∧ newer W w') := Lib.hid (fun W hW hu => by
      refine (picked_any s u k0 l hs HA hc W (HOK.out.1.next hW) HSD.out hu hf hl hsf ((HOK.out.2.2.below hW).more hW.size)).mono ?_
      rintro e w' ⟨tl, A, c, rfl, h1, h2, h3⟩
      rw [← eb] at h2
      have h4 := HK.out.fit tl h2
      have h5 := fits_len h2
      rw [eb, bedsL_len] at h5
      have h6 := HUL.out
      rw [hl, List.length_map] at h6
      exact ⟨A, c, tl, rfl, h1, ⟨by omega, fun h => by rw [h4.1 h], h4.2⟩, h3⟩)
    have HE0 : Hid (∀ W, newer w W → SuOk u W → Calls Try.prog 45 #[smV s, suV u, .bool false] W fun e w' => ∃ A c tl, e = .returned (.slice A (tl : List Rl).length c) ∧ Row rlL 3 w' w'.heap.size A tl ∧ FacK s.sd u.frm u.beds e5 r0 r0 tl ∧ newer W w') := Lib.hid (fun W hW hu => by
      refine (ends_any s u k0 l false W (HOK.out.1.next hW) HSD.out hu hf hl hsf).mono ?_
      rintro e w' ⟨A, c, rfl, h1, h3⟩
      have e9 : ((bedsL s.sd.cols k0 l).map (endR false)).length = l.length := by rw [List.length_map, bedsL_len]
      have h6 := HUL.out
      rw [hl, List.length_map] at h6
      rw [← e9] at h1
      refine ⟨A, c, (bedsL s.sd.cols k0 l).map (endR false), by rw [e9], row_of_own (enc := rlL) (size := 3) (by omega) (fun _ => rfl) h1, ⟨by omega, fun h => ?_, fun h => ?_⟩, h3⟩
      · rw [← eb, ((HK.out.fit _ (by rw [eb]; exact ends_fit (bedsL_ok HSD.out hsf.2.2 hsf.2.1) false)).1 h)]
      · rw [← eb, (HK.out.ends h).1]
        exact ⟨rfl, Int.le_refl _, Int.le_refl _⟩)
    have HE1 : Hid (∀ W, newer w W → SuOk u W → Calls Try.prog 45 #[smV s, suV u, .bool true] W fun e w' => ∃ A c tl, e = .returned (.slice A (tl : List Rl).length c) ∧ Row rlL 3 w' w'.heap.size A tl ∧ FacK s.sd u.frm u.beds e5 r1 r1 tl ∧ newer W w') := Lib.hid (fun W hW hu => by
      refine (ends_any s u k0 l true W (HOK.out.1.next hW) HSD.out hu hf hl hsf).mono ?_
      rintro e w' ⟨A, c, rfl, h1, h3⟩
      have e9 : ((bedsL s.sd.cols k0 l).map (endR true)).length = l.length := by rw [List.length_map, bedsL_len]
      have h6 := HUL.out
      rw [hl, List.length_map] at h6
      rw [← e9] at h1
      refine ⟨A, c, (bedsL s.sd.cols k0 l).map (endR true), by rw [e9], row_of_own (enc := rlL) (size := 3) (by omega) (fun _ => rfl) h1, ⟨by omega, fun h => ?_, fun h => ?_⟩, h3⟩
      · rw [← eb, ((HK.out.fit _ (by rw [eb]; exact ends_fit (bedsL_ok HSD.out hsf.2.2 hsf.2.1) true)).1 h)]
      · rw [← eb, (HK.out.ends h).2]
        exact ⟨rfl, Int.le_refl _, Int.le_refl _⟩)
    have HUK := Lib.hid (And.intro HUL.out H10.out.2.2.2)
    clear hf hl hsf eb hk hul
    have x0 := H10.out.2.1.at 0 (v := .slice s.a s.cs.length s.c) rfl
    have x1 := H10.out.2.1.at 1 (v := vi s.least) rfl
    have u0 := H10.out.2.2.1.at 0 (v := vi u.frm) rfl
    have u1 := H10.out.2.2.1.at 1 (v := .slice u.a u.beds.length u.c) rfl
    go_upto_region 4 with fail
    refine wp_words (by kernel_rfl) (region_late 10 9 (by kernel_rfl) (by kernel_rfl) (by decide) (by kernel_rfl) (fun W => Below (w8.alloc (.cells (suC u) 27)).heap.size (w8.alloc (.cells (suC u) 27)) W) (pickB [vIs (smV s), vSlo s.sd, vIs (suV u), vSuf u.frm u.beds, vIs (.tuple #[.agg #[vi r0, vi r1], vi e5]), vIs (.tuple #[.agg #[vi r0, vi r1], vi e5]), vIs (.agg #[vi r0, vi r1]), vIs (vi e5), vNew (w8.alloc (.cells (suC u) 27)).heap.size 31 #[vi 0, vi 0], (fun _ _ => True)] [(fun _ _ => True), (fun _ _ => True), (fun _ _ => True), (fun _ _ => True), (fun _ _ => True), vIs (.tuple #[.agg #[vi r0, vi r1], vi e5]), (fun _ _ => True), vIs (vi e5), vNew (w8.alloc (.cells (suC u) 27)).heap.size 31 #[vi r0, vi r1], (fun _ _ => True)]) (pickB_stable ⟨vIs_st, vSlo_st, vIs_st, vSuf_st, vIs_st, vIs_st, vIs_st, vIs_st, vNew_st, (fun _ _ _ h _ => h), trivial⟩ ⟨(fun _ _ _ h _ => h), (fun _ _ _ h _ => h), (fun _ _ _ h _ => h), (fun _ _ _ h _ => h), (fun _ _ _ h _ => h), vIs_st, (fun _ _ _ h _ => h), vIs_st, vNew_st, (fun _ _ _ h _ => h), trivial⟩) (Below.refl _ (w8.alloc (.cells (suC u) 27))).drew ?_ ?_)
    · refine ⟨?_, ?_, ?_, ?_, ?_, ?_, ?_, ?_, ?_, ?_, trivial⟩
      · intro a W hG hO hp
        have h3 := hO.slot 3 (by kernel_rfl)
        have c0 := keep_cell x0 hG
        have c1 := keep_cell x1 hG
        refine wp_yields (v := smV s) ?_ ⟨_, rfl, rfl, Below.refl _ _, hG⟩
        simp [slotOf] at h3
        simp [execOp, go_sem, h3, c0, c1]
      · intro a W hG hO hp
        have h27 : slotOf a 27 = smV s := hp.1
        refine wp_enters (f := 19) (args := #[smV s]) ?_ ((lawSlope s W (HOK.out.1.next (newer_trans H10.out.1 hG)) HFW.out).mono ?_)
        · simp [slotOf] at h27
          simp [go_sem, h27]
        · rintro e w' ⟨s2, rfl, h1, h2, hb⟩
          exact ⟨_, rfl, _, rfl, ⟨s2, rfl, h1, h2⟩, hb, below_next hG hb⟩
      · intro a W hG hO hp
        have h7 := hO.slot 7 (by kernel_rfl)
        have c0 := keep_cell u0 hG
        have c1 := keep_cell u1 hG
        refine wp_yields (v := suV u) ?_ ⟨_, rfl, rfl, Below.refl _ _, hG⟩
        simp [slotOf] at h7
        simp [execOp, go_sem, h7, c0, c1]
      · intro a W hG hO hp
        have h29 : slotOf a 29 = suV u := hp.1
        refine wp_enters (f := 20) (args := #[suV u]) ?_ ((lawSurface u W (HUK.out.2.next hG) HUK.out.1).mono ?_)
        · simp [slotOf] at h29
          simp [go_sem, h29]
        · rintro e w' ⟨u2, rfl, h1, h2, h3, hb⟩
          exact ⟨_, rfl, _, rfl, ⟨u2, rfl, h1, h2, h3⟩, hb, below_next hG hb⟩
      · intro a W hG hO hp
        have h28 := hp.1
        have h30 := hp.2.1
        obtain ⟨s2, h28, hd2, hs2⟩ := h28
        obtain ⟨u2, h30, hf2, hl2, hu2⟩ := h30
        have hsp := HSP.out s2 u2 W hd2 hs2 hf2 hl2 hu2
        refine wp_enters (f := 18) (args := #[smV s2, suV u2]) ?_ (hsp.mono ?_)
        · simp [slotOf] at h28 h30
          simp [go_sem, h28, h30]
        · rintro e w' ⟨rfl, hb⟩
          exact ⟨_, rfl, _, rfl, rfl, hb, below_next hG hb⟩
      · intro a W hG hO hp
        have h31 : slotOf a 31 = .tuple #[.agg #[vi r0, vi r1], vi e5] := hp.1
        refine wp_yields (v := .tuple #[.agg #[vi r0, vi r1], vi e5]) ?_ ⟨_, rfl, rfl, Below.refl _ _, hG⟩
        simp [slotOf] at h31
        simp [execOp, go_sem, h31]
      · intro a W hG hO hp
        have h26 : slotOf a 26 = .tuple #[.agg #[vi r0, vi r1], vi e5] := hp.1
        refine wp_yields (v := .agg #[vi r0, vi r1]) ?_ ⟨_, rfl, rfl, Below.refl _ _, hG⟩
        simp [slotOf] at h26
        simp [execOp, go_sem, h26]
      · intro b a W hG hO hp
        have h26 : slotOf a 26 = .tuple #[.agg #[vi r0, vi r1], vi e5] := by cases b <;> exact hp.1
        refine wp_yields (v := vi e5) ?_ ⟨_, rfl, (by cases b <;> rfl), Below.refl _ _, hG⟩
        simp [slotOf] at h26
        simp [execOp, go_sem, h26]
      · intro a W hG hO hp
        refine wp_makes (v := .pointer (some ⟨W.heap.size, 0, none⟩)) (W' := W.alloc (.cells #[vi 0, vi 0] 31)) ?_ ⟨_, rfl, ⟨_, rfl, hG.size, Whole.made _ _ _⟩, newer_allocH _ _, below_next hG (newer_allocH _ _)⟩
        skip
        simp [execOp, go_sem]
      · intro a W hG hO hp
        have h8 := hp.1
        have h32 : slotOf a 32 = .agg #[vi r0, vi r1] := hp.2.1
        obtain ⟨fb, h8, hfb, hwf⟩ := h8
        have b0 := hwf.at 0 rfl
        have b1 := hwf.at 1 rfl
        have f0 := hwf.free 0
        have f1 := hwf.free 1
        have hq := h8
        simp [slotOf] at h8 h32
        refine wp_storesE (W' := (W.setCell ⟨fb, 0, none⟩ (vi r0)).setCell ⟨fb, 1, none⟩ (vi r1)) (by simp [execOp, go_sem, h8, h32, b0, b1, f0, f1]) ⟨rfl, (hG.setCell (p := ⟨fb, 0, none⟩) hfb _).setCell (p := ⟨fb, 1, none⟩) hfb _, ?_⟩
        intro j oj d hj hoj hd hD
        match j, hoj, hD with
        | 0, _, _ => trivial
        | 1, _, _ => trivial
        | 2, _, _ => trivial
        | 3, _, _ => trivial
        | 4, _, _ => trivial
        | 5, _, hD =>
          exact hD
        | 6, _, _ => trivial
        | 7, _, hD =>
          exact hD
        | 8, hoj, _ =>
          obtain rfl := Option.some.inj hoj
          obtain rfl := Option.some.inj hd
          exact ⟨fb, hq, hfb, (hwf.set 0 _).set 1 _⟩
        | 9, _, _ => trivial
        | (_ + 10), _, _ => omega
    · intro wz4 hG
      rintro _ - _ - _ - _ - _ - _ - _ - _ rfl _ ⟨fb, rfl, hfb, hwf⟩
      change wpList _ _ _ _ _ _
      simp only [Act.put, List.setIfInBounds_toArray, List.set_cons_zero, List.set_cons_succ, List.drop_succ_cons, List.drop_zero]
      have H11 := Lib.hid (And.intro ((newer_trans H10.out.1 hG)) (And.intro ((H10.out.2.1.below hG H10.out.2.1.lt)) (And.intro ((H10.out.2.2.1.below hG H10.out.2.2.1.lt)) (And.intro ((H10.out.2.2.2.next hG)) (hwf)))))
      clear hG hfb hwf HUK HSP H10 x0 x1 u0 u1
      have x0 := H11.out.2.1.at 0 (v := .slice s.a s.cs.length s.c) rfl
      have x1 := H11.out.2.1.at 1 (v := vi s.least) rfl
      go_wp2_with fail
      refine (HSL.out _ H11.out.1).mono ?_
      rintro e w12 ⟨s4, rfl, hc4, hb⟩
      have HC4 := Lib.hid (hc4 _ (newer_refl _))
      clear hc4
      have H13 := Lib.hid (And.intro ((newer_trans H11.out.1 hb)) (And.intro ((H11.out.2.1.below hb H11.out.2.1.lt)) (And.intro ((H11.out.2.2.1.below hb H11.out.2.2.1.lt)) (And.intro ((H11.out.2.2.2.1.next hb)) ((H11.out.2.2.2.2.below hb H11.out.2.2.2.2.lt))))))
      clear hb HSL H11 x0 x1
      go_wp2_with fail
      refine (HC4.out).mono ?_
      rintro e w14 ⟨a_, A_, n_, c_, rfl, hb⟩
      have H15 := Lib.hid (And.intro ((newer_trans H13.out.1 hb)) (And.intro ((H13.out.2.1.below hb H13.out.2.1.lt)) (And.intro ((H13.out.2.2.1.below hb H13.out.2.2.1.lt)) (And.intro ((H13.out.2.2.2.1.next hb)) ((H13.out.2.2.2.2.below hb H13.out.2.2.2.2.lt))))))
      clear hb HC4 H13
      have e6 := newer_allocH w14 (.cells #[vi a_, .slice A_ n_ c_] 39)
      have H16 := Lib.hid (And.intro ((newer_trans H15.out.1 e6)) (And.intro ((H15.out.2.1.below e6 H15.out.2.1.lt)) (And.intro ((H15.out.2.2.1.below e6 H15.out.2.2.1.lt)) (And.intro ((H15.out.2.2.2.1.next e6)) ((H15.out.2.2.2.2.below e6 H15.out.2.2.2.2.lt))))))
      clear e6 H15
      have HUK := Lib.hid (And.intro HUL.out H16.out.2.2.2.1)
      have x0 := H16.out.2.1.at 0 (v := .slice s.a s.cs.length s.c) rfl
      have x1 := H16.out.2.1.at 1 (v := vi s.least) rfl
      have u0 := H16.out.2.2.1.at 0 (v := vi u.frm) rfl
      have u1 := H16.out.2.2.1.at 1 (v := .slice u.a u.beds.length u.c) rfl
      go_upto_region 6 with fail
      refine wp_words (by kernel_rfl) (region_told 14 (by kernel_rfl) (by kernel_rfl) (fun W => Below (w14.alloc (.cells #[vi a_, .slice A_ n_ c_] 39)).heap.size (w14.alloc (.cells #[vi a_, .slice A_ n_ c_] 39)) W) newer (pickD [vIs (smV s), vSlo s.sd, vIs (suV u), vSuf u.frm u.beds, vIs (smV s), vIs (suV u), vIs (.slice HA hs.length hc), vTruK s.sd u.frm u.beds e5 r0 r1, vTruK s.sd u.frm u.beds e5 r0 r1, vFac e5 r0 r1, vFac e5 r0 r1, vFp e5 r0 r1, vFq e5, vFp e5 r0 r1]) (fun h k => newer_trans h k) (pickD_stable _ ⟨vIs_st, vSlo_st, vIs_st, vSuf_st, vIs_st, vIs_st, vIs_st, vTruK_st, vTruK_st, vFac_st, vFac_st, vFp_st, vFq_st, vFp_st, trivial⟩) (Below.refl _ (w14.alloc (.cells #[vi a_, .slice A_ n_ c_] 39))).drew (Below.refl _ _) ?_ ?_)
      · refine ⟨?_, ?_, ?_, ?_, ?_, ?_, ?_, ?_, ?_, ?_, ?_, ?_, ?_, ?_, trivial⟩
        · intro a W hG hR hO hp
          have h3 := hO.slot 3 (by kernel_rfl)
          have c0 := keep_cell x0 hG
          have c1 := keep_cell x1 hG
          refine wp_yields (v := smV s) ?_ ⟨_, rfl, rfl, Below.refl _ _, hG⟩
          simp [slotOf] at h3
          simp [execOp, go_sem, h3, c0, c1]
        · intro a W hG hR hO hp
          have h42 : slotOf a 42 = smV s := hp.1
          refine wp_enters (f := 19) (args := #[smV s]) ?_ ((lawSlope s W (HOK.out.1.next (newer_trans H16.out.1 hG)) HFW.out).mono ?_)
          · simp [slotOf] at h42
            simp [go_sem, h42]
          · rintro e w' ⟨s2, rfl, h1, h2, hb⟩
            exact ⟨_, rfl, _, rfl, ⟨s2, rfl, h1, h2⟩, hb, below_next hG hb⟩
        · intro a W hG hR hO hp
          have h7 := hO.slot 7 (by kernel_rfl)
          have c0 := keep_cell u0 hG
          have c1 := keep_cell u1 hG
          refine wp_yields (v := suV u) ?_ ⟨_, rfl, rfl, Below.refl _ _, hG⟩
          simp [slotOf] at h7
          simp [execOp, go_sem, h7, c0, c1]
        · intro a W hG hR hO hp
          have h44 : slotOf a 44 = suV u := hp.1
          refine wp_enters (f := 20) (args := #[suV u]) ?_ ((lawSurface u W (HUK.out.2.next hG) HUK.out.1).mono ?_)
          · simp [slotOf] at h44
            simp [go_sem, h44]
          · rintro e w' ⟨u2, rfl, h1, h2, h3, hb⟩
            exact ⟨_, rfl, _, rfl, ⟨u2, rfl, h1, h2, h3⟩, hb, below_next hG hb⟩
        · intro a W hG hR hO hp
          have h3 := hO.slot 3 (by kernel_rfl)
          have c0 := keep_cell x0 hG
          have c1 := keep_cell x1 hG
          refine wp_yields (v := smV s) ?_ ⟨_, rfl, rfl, Below.refl _ _, hG⟩
          simp [slotOf] at h3
          simp [execOp, go_sem, h3, c0, c1]
        · intro a W hG hR hO hp
          have h7 := hO.slot 7 (by kernel_rfl)
          have c0 := keep_cell u0 hG
          have c1 := keep_cell u1 hG
          refine wp_yields (v := suV u) ?_ ⟨_, rfl, rfl, Below.refl _ _, hG⟩
          simp [slotOf] at h7
          simp [execOp, go_sem, h7, c0, c1]
        · intro a W hG hR hO hp
          have h2 := hO.slot 2 (by kernel_rfl)
          refine wp_yields (v := .slice HA hs.length hc) ?_ ⟨_, rfl, rfl, Below.refl _ _, hG⟩
          simp [slotOf] at h2
          simp [execOp, go_sem, h2]
        · intro a W hG hR hO hp
          have h46 : slotOf a 46 = smV s := hp.1
          have h47 : slotOf a 47 = suV u := hp.2.1
          have h48 : slotOf a 48 = .slice HA hs.length hc := hp.2.2.1
          refine wp_enters (f := 44) (args := #[smV s, suV u, .slice HA hs.length hc]) ?_ ((HPI.out W (newer_trans H16.out.1 hG) (HUK.out.2.next hG)).mono ?_)
          · simp [slotOf] at h46 h47 h48
            simp [go_sem, h46, h47, h48]
          · rintro e w' ⟨A, c, tl, rfl, h1, h2, hb⟩
            exact ⟨_, rfl, _, rfl, ⟨A, c, tl, rfl, h1, h2⟩, hb, below_next hG hb⟩
        · intro a W hG hR hO hp
          have h49 := hp.1
          obtain ⟨A, c, tl, h49, hr1, hk1⟩ := h49
          refine wp_enters (f := 43) (args := #[.slice A tl.length c]) ?_ ((lawTruth tl A c W hk1.1 hr1).mono ?_)
          · simp [slotOf] at h49
            simp [go_sem, h49]
          · rintro e w' ⟨B, d, rfl, h1, hb⟩
            exact ⟨_, rfl, _, rfl, ⟨B, d, tl, rfl, h1, hk1⟩, hb, below_next hG hb⟩
        · intro a W hG hR hO hp
          have h43 := hp.1
          have h45 := hp.2.1
          have h50 := hp.2.2.1
          obtain ⟨s2, h43, hd2, hs2⟩ := h43
          obtain ⟨u2, h45, hf2, hl2, hu2⟩ := h45
          obtain ⟨B, c, tl, h50, hr2, hk2⟩ := h50
          have hfp := HFP.out s2 u2 B c tl W hd2 hs2 hf2 hl2 hu2 hr2 hk2.1
          refine wp_enters (f := 42) (args := #[smV s2, suV u2, .slice B tl.length c]) ?_ (hfp.mono ?_)
          · simp [slotOf] at h43 h45 h50
            simp [go_sem, h43, h45, h50]
          · rintro e w' ⟨rfl, hb⟩
            exact ⟨_, rfl, _, rfl, ⟨_, _, rfl, hk2.2.1, hk2.2.2⟩, hb, below_next hG hb⟩
        · intro a W hG hR hO hp
          have h51 := hp.1
          obtain ⟨p, q, h51, g1, g2⟩ := h51
          refine wp_yields (v := .tuple #[vi p, vi q]) ?_ ⟨_, rfl, ⟨p, q, rfl, g1, g2⟩, Below.refl _ _, hG⟩
          simp [slotOf] at h51
          simp [execOp, go_sem, h51]
        · intro a W hG hR hO hp
          have h41 := hp.1
          obtain ⟨p, q, h41, g1, g2⟩ := h41
          refine wp_yields (v := vi p) ?_ ⟨_, rfl, ⟨p, rfl, fun h => (g2 h).2⟩, Below.refl _ _, hG⟩
          simp [slotOf] at h41
          simp [execOp, go_sem, h41]
        · intro a W hG hR hO hp
          have h41 := hp.1
          obtain ⟨p, q, h41, g1, g2⟩ := h41
          refine wp_yields (v := vi q) ?_ ⟨_, rfl, ⟨q, rfl, g1, fun h => (g2 h).1⟩, Below.refl _ _, hG⟩
          simp [slotOf] at h41
          simp [execOp, go_sem, h41]
        · intro a W hG hR hO hp
          have h52 := hp.1
          obtain ⟨p, h52, g1⟩ := h52
          refine wp_yields (v := vi p) ?_ ⟨_, rfl, ⟨p, rfl, g1⟩, Below.refl _ _, hG⟩
          simp [slotOf] at h52
          simp [execOp, go_sem, h52]
      · intro wz6 hG hR
        rintro _ rfl _ - _ rfl _ - _ rfl _ rfl _ rfl _ - _ - _ - _ - _ - _ ⟨qn, rfl, qn7, qn0⟩ _ ⟨pn, rfl, pn0⟩
        change wpList _ _ _ _ _ _
        simp only [Act.put, List.setIfInBounds_toArray, List.set_cons_zero, List.set_cons_succ, List.drop_succ_cons, List.drop_zero]
        have H17 := Lib.hid (And.intro ((newer_trans H16.out.1 hG)) (And.intro ((H16.out.2.1.below hG H16.out.2.1.lt)) (And.intro ((H16.out.2.2.1.below hG H16.out.2.2.1.lt)) (And.intro ((H16.out.2.2.2.1.next hG)) ((H16.out.2.2.2.2.below hG H16.out.2.2.2.2.lt))))))
        clear hG hR HUK H16 x0 x1 u0 u1
        have HUK := Lib.hid (And.intro HUL.out H17.out.2.2.2.1)
        have x0 := H17.out.2.1.at 0 (v := .slice s.a s.cs.length s.c) rfl
        have x1 := H17.out.2.1.at 1 (v := vi s.least) rfl
        have u0 := H17.out.2.2.1.at 0 (v := vi u.frm) rfl
        have u1 := H17.out.2.2.1.at 1 (v := .slice u.a u.beds.length u.c) rfl
        go_upto_region 7 with fail
        refine wp_words (by kernel_rfl) (region_told 13 (by kernel_rfl) (by kernel_rfl) (fun W => Below wz6.heap.size wz6 W) newer (pickD [vIs (smV s), vSlo s.sd, vIs (suV u), vSuf u.frm u.beds, vIs (smV s), vIs (suV u), vTruK s.sd u.frm u.beds e5 r0 r0, vTruK s.sd u.frm u.beds e5 r0 r0, vFac e5 r0 r0, vFac e5 r0 r0, vFp e5 r0 r0, vFq e5, vFp e5 r0 r0]) (fun h k => newer_trans h k) (pickD_stable _ ⟨vIs_st, vSlo_st, vIs_st, vSuf_st, vIs_st, vIs_st, vTruK_st, vTruK_st, vFac_st, vFac_st, vFp_st, vFq_st, vFp_st, trivial⟩) (Below.refl _ wz6).drew (Below.refl _ _) ?_ ?_)
        · refine ⟨?_, ?_, ?_, ?_, ?_, ?_, ?_, ?_, ?_, ?_, ?_, ?_, ?_, trivial⟩
          · intro a W hG hR hO hp
            have h3 := hO.slot 3 (by kernel_rfl)
            have c0 := keep_cell x0 hG
            have c1 := keep_cell x1 hG
            refine wp_yields (v := smV s) ?_ ⟨_, rfl, rfl, Below.refl _ _, hG⟩
            simp [slotOf] at h3
            simp [execOp, go_sem, h3, c0, c1]
          · intro a W hG hR hO hp
            have h55 : slotOf a 55 = smV s := hp.1
            refine wp_enters (f := 19) (args := #[smV s]) ?_ ((lawSlope s W (HOK.out.1.next (newer_trans H17.out.1 hG)) HFW.out).mono ?_)
            · simp [slotOf] at h55
              simp [go_sem, h55]
            · rintro e w' ⟨s2, rfl, h1, h2, hb⟩
              exact ⟨_, rfl, _, rfl, ⟨s2, rfl, h1, h2⟩, hb, below_next hG hb⟩
          · intro a W hG hR hO hp
            have h7 := hO.slot 7 (by kernel_rfl)
            have c0 := keep_cell u0 hG
            have c1 := keep_cell u1 hG
            refine wp_yields (v := suV u) ?_ ⟨_, rfl, rfl, Below.refl _ _, hG⟩
            simp [slotOf] at h7
            simp [execOp, go_sem, h7, c0, c1]
          · intro a W hG hR hO hp
            have h57 : slotOf a 57 = suV u := hp.1
            refine wp_enters (f := 20) (args := #[suV u]) ?_ ((lawSurface u W (HUK.out.2.next hG) HUK.out.1).mono ?_)
            · simp [slotOf] at h57
              simp [go_sem, h57]
            · rintro e w' ⟨u2, rfl, h1, h2, h3, hb⟩
              exact ⟨_, rfl, _, rfl, ⟨u2, rfl, h1, h2, h3⟩, hb, below_next hG hb⟩
          · intro a W hG hR hO hp
            have h3 := hO.slot 3 (by kernel_rfl)
            have c0 := keep_cell x0 hG
            have c1 := keep_cell x1 hG
            refine wp_yields (v := smV s) ?_ ⟨_, rfl, rfl, Below.refl _ _, hG⟩
            simp [slotOf] at h3
            simp [execOp, go_sem, h3, c0, c1]
          · intro a W hG hR hO hp
            have h7 := hO.slot 7 (by kernel_rfl)
            have c0 := keep_cell u0 hG
            have c1 := keep_cell u1 hG
            refine wp_yields (v := suV u) ?_ ⟨_, rfl, rfl, Below.refl _ _, hG⟩
            simp [slotOf] at h7
            simp [execOp, go_sem, h7, c0, c1]
          · intro a W hG hR hO hp
            have h59 : slotOf a 59 = smV s := hp.1
            have h60 : slotOf a 60 = suV u := hp.2.1
            refine wp_enters (f := 45) (args := #[smV s, suV u, .bool false]) ?_ ((HE0.out W (newer_trans H17.out.1 hG) (HUK.out.2.next hG)).mono ?_)
            · simp [slotOf] at h59 h60
              simp [go_sem, h59, h60]
            · rintro e w' ⟨A, c, tl, rfl, h1, h2, hb⟩
              exact ⟨_, rfl, _, rfl, ⟨A, c, tl, rfl, h1, h2⟩, hb, below_next hG hb⟩
          · intro a W hG hR hO hp
            have h61 := hp.1
            obtain ⟨A, c, tl, h61, hr1, hk1⟩ := h61
            refine wp_enters (f := 43) (args := #[.slice A tl.length c]) ?_ ((lawTruth tl A c W hk1.1 hr1).mono ?_)
            · simp [slotOf] at h61
              simp [go_sem, h61]
            · rintro e w' ⟨B, d, rfl, h1, hb⟩
              exact ⟨_, rfl, _, rfl, ⟨B, d, tl, rfl, h1, hk1⟩, hb, below_next hG hb⟩
          · intro a W hG hR hO hp
            have h56 := hp.1
            have h58 := hp.2.1
            have h62 := hp.2.2.1
            obtain ⟨s2, h56, hd2, hs2⟩ := h56
            obtain ⟨u2, h58, hf2, hl2, hu2⟩ := h58
            obtain ⟨B, c, tl, h62, hr2, hk2⟩ := h62
            have hfp := HFP.out s2 u2 B c tl W hd2 hs2 hf2 hl2 hu2 hr2 hk2.1
            refine wp_enters (f := 42) (args := #[smV s2, suV u2, .slice B tl.length c]) ?_ (hfp.mono ?_)
            · simp [slotOf] at h56 h58 h62
              simp [go_sem, h56, h58, h62]
            · rintro e w' ⟨rfl, hb⟩
              exact ⟨_, rfl, _, rfl, ⟨_, _, rfl, hk2.2.1, hk2.2.2⟩, hb, below_next hG hb⟩
          · intro a W hG hR hO hp
            have h63 := hp.1
            obtain ⟨p, q, h63, g1, g2⟩ := h63
            refine wp_yields (v := .tuple #[vi p, vi q]) ?_ ⟨_, rfl, ⟨p, q, rfl, g1, g2⟩, Below.refl _ _, hG⟩
            simp [slotOf] at h63
            simp [execOp, go_sem, h63]
          · intro a W hG hR hO hp
            have h54 := hp.1
            obtain ⟨p, q, h54, g1, g2⟩ := h54
            refine wp_yields (v := vi p) ?_ ⟨_, rfl, ⟨p, rfl, fun h => (g2 h).2⟩, Below.refl _ _, hG⟩
            simp [slotOf] at h54
            simp [execOp, go_sem, h54]
          · intro a W hG hR hO hp
            have h54 := hp.1
            obtain ⟨p, q, h54, g1, g2⟩ := h54
            refine wp_yields (v := vi q) ?_ ⟨_, rfl, ⟨q, rfl, g1, fun h => (g2 h).1⟩, Below.refl _ _, hG⟩
            simp [slotOf] at h54
            simp [execOp, go_sem, h54]
          · intro a W hG hR hO hp
            have h64 := hp.1
            obtain ⟨p, h64, g1⟩ := h64
            refine wp_yields (v := vi p) ?_ ⟨_, rfl, ⟨p, rfl, g1⟩, Below.refl _ _, hG⟩
            simp [slotOf] at h64
            simp [execOp, go_sem, h64]
        · intro wz7 hG hR
          rintro _ rfl _ - _ rfl _ - _ rfl _ rfl _ - _ - _ - _ - _ - _ ⟨qa, rfl, qa7, qa0⟩ _ ⟨pa, rfl, pa0⟩
          change wpList _ _ _ _ _ _
          simp only [Act.put, List.setIfInBounds_toArray, List.set_cons_zero, List.set_cons_succ, List.drop_succ_cons, List.drop_zero]
          have H18 := Lib.hid (And.intro ((newer_trans H17.out.1 hG)) (And.intro ((H17.out.2.1.below hG H17.out.2.1.lt)) (And.intro ((H17.out.2.2.1.below hG H17.out.2.2.1.lt)) (And.intro ((H17.out.2.2.2.1.next hG)) ((H17.out.2.2.2.2.below hG H17.out.2.2.2.2.lt))))))
          clear hG hR HUK H17 x0 x1 u0 u1
          have HUK := Lib.hid (And.intro HUL.out H18.out.2.2.2.1)
          have x0 := H18.out.2.1.at 0 (v := .slice s.a s.cs.length s.c) rfl
          have x1 := H18.out.2.1.at 1 (v := vi s.least) rfl
          have u0 := H18.out.2.2.1.at 0 (v := vi u.frm) rfl
          have u1 := H18.out.2.2.1.at 1 (v := .slice u.a u.beds.length u.c) rfl
          go_upto_region 8 with fail
          refine wp_words (by kernel_rfl) (region_told 13 (by kernel_rfl) (by kernel_rfl) (fun W => Below wz7.heap.size wz7 W) newer (pickD [vIs (smV s), vSlo s.sd, vIs (suV u), vSuf u.frm u.beds, vIs (smV s), vIs (suV u), vTruK s.sd u.frm u.beds e5 r1 r1, vTruK s.sd u.frm u.beds e5 r1 r1, vFac e5 r1 r1, vFac e5 r1 r1, vFp e5 r1 r1, vFq e5, vFp e5 r1 r1]) (fun h k => newer_trans h k) (pickD_stable _ ⟨vIs_st, vSlo_st, vIs_st, vSuf_st, vIs_st, vIs_st, vTruK_st, vTruK_st, vFac_st, vFac_st, vFp_st, vFq_st, vFp_st, trivial⟩) (Below.refl _ wz7).drew (Below.refl _ _) ?_ ?_)
          · refine ⟨?_, ?_, ?_, ?_, ?_, ?_, ?_, ?_, ?_, ?_, ?_, ?_, ?_, trivial⟩
            · intro a W hG hR hO hp
              have h3 := hO.slot 3 (by kernel_rfl)
              have c0 := keep_cell x0 hG
              have c1 := keep_cell x1 hG
              refine wp_yields (v := smV s) ?_ ⟨_, rfl, rfl, Below.refl _ _, hG⟩
              simp [slotOf] at h3
              simp [execOp, go_sem, h3, c0, c1]
            · intro a W hG hR hO hp
              have h67 : slotOf a 67 = smV s := hp.1
              refine wp_enters (f := 19) (args := #[smV s]) ?_ ((lawSlope s W (HOK.out.1.next (newer_trans H18.out.1 hG)) HFW.out).mono ?_)
              · simp [slotOf] at h67
                simp [go_sem, h67]
              · rintro e w' ⟨s2, rfl, h1, h2, hb⟩
                exact ⟨_, rfl, _, rfl, ⟨s2, rfl, h1, h2⟩, hb, below_next hG hb⟩
            · intro a W hG hR hO hp
              have h7 := hO.slot 7 (by kernel_rfl)
              have c0 := keep_cell u0 hG
              have c1 := keep_cell u1 hG
              refine wp_yields (v := suV u) ?_ ⟨_, rfl, rfl, Below.refl _ _, hG⟩
              simp [slotOf] at h7
              simp [execOp, go_sem, h7, c0, c1]
            · intro a W hG hR hO hp
              have h69 : slotOf a 69 = suV u := hp.1
              refine wp_enters (f := 20) (args := #[suV u]) ?_ ((lawSurface u W (HUK.out.2.next hG) HUK.out.1).mono ?_)
              · simp [slotOf] at h69
                simp [go_sem, h69]
              · rintro e w' ⟨u2, rfl, h1, h2, h3, hb⟩
                exact ⟨_, rfl, _, rfl, ⟨u2, rfl, h1, h2, h3⟩, hb, below_next hG hb⟩
            · intro a W hG hR hO hp
              have h3 := hO.slot 3 (by kernel_rfl)
              have c0 := keep_cell x0 hG
              have c1 := keep_cell x1 hG
              refine wp_yields (v := smV s) ?_ ⟨_, rfl, rfl, Below.refl _ _, hG⟩
              simp [slotOf] at h3
              simp [execOp, go_sem, h3, c0, c1]
            · intro a W hG hR hO hp
              have h7 := hO.slot 7 (by kernel_rfl)
              have c0 := keep_cell u0 hG
              have c1 := keep_cell u1 hG
              refine wp_yields (v := suV u) ?_ ⟨_, rfl, rfl, Below.refl _ _, hG⟩
              simp [slotOf] at h7
              simp [execOp, go_sem, h7, c0, c1]
            · intro a W hG hR hO hp
              have h71 : slotOf a 71 = smV s := hp.1
              have h72 : slotOf a 72 = suV u := hp.2.1
              refine wp_enters (f := 45) (args := #[smV s, suV u, .bool true]) ?_ ((HE1.out W (newer_trans H18.out.1 hG) (HUK.out.2.next hG)).mono ?_)
              · simp [slotOf] at h71 h72
                simp [go_sem, h71, h72]
              · rintro e w' ⟨A, c, tl, rfl, h1, h2, hb⟩
                exact ⟨_, rfl, _, rfl, ⟨A, c, tl, rfl, h1, h2⟩, hb, below_next hG hb⟩
            · intro a W hG hR hO hp
              have h73 := hp.1
              obtain ⟨A, c, tl, h73, hr1, hk1⟩ := h73
              refine wp_enters (f := 43) (args := #[.slice A tl.length c]) ?_ ((lawTruth tl A c W hk1.1 hr1).mono ?_)
              · simp [slotOf] at h73
                simp [go_sem, h73]
              · rintro e w' ⟨B, d, rfl, h1, hb⟩
                exact ⟨_, rfl, _, rfl, ⟨B, d, tl, rfl, h1, hk1⟩, hb, below_next hG hb⟩
            · intro a W hG hR hO hp
              have h68 := hp.1
              have h70 := hp.2.1
              have h74 := hp.2.2.1
              obtain ⟨s2, h68, hd2, hs2⟩ := h68
              obtain ⟨u2, h70, hf2, hl2, hu2⟩ := h70
              obtain ⟨B, c, tl, h74, hr2, hk2⟩ := h74
              have hfp := HFP.out s2 u2 B c tl W hd2 hs2 hf2 hl2 hu2 hr2 hk2.1
              refine wp_enters (f := 42) (args := #[smV s2, suV u2, .slice B tl.length c]) ?_ (hfp.mono ?_)
              · simp [slotOf] at h68 h70 h74
                simp [go_sem, h68, h70, h74]
              · rintro e w' ⟨rfl, hb⟩
                exact ⟨_, rfl, _, rfl, ⟨_, _, rfl, hk2.2.1, hk2.2.2⟩, hb, below_next hG hb⟩
            · intro a W hG hR hO hp
              have h75 := hp.1
              obtain ⟨p, q, h75, g1, g2⟩ := h75
              refine wp_yields (v := .tuple #[vi p, vi q]) ?_ ⟨_, rfl, ⟨p, q, rfl, g1, g2⟩, Below.refl _ _, hG⟩
              simp [slotOf] at h75
              simp [execOp, go_sem, h75]
            · intro a W hG hR hO hp
              have h66 := hp.1
              obtain ⟨p, q, h66, g1, g2⟩ := h66
              refine wp_yields (v := vi p) ?_ ⟨_, rfl, ⟨p, rfl, fun h => (g2 h).2⟩, Below.refl _ _, hG⟩
              simp [slotOf] at h66
              simp [execOp, go_sem, h66]
            · intro a W hG hR hO hp
              have h66 := hp.1
              obtain ⟨p, q, h66, g1, g2⟩ := h66
              refine wp_yields (v := vi q) ?_ ⟨_, rfl, ⟨q, rfl, g1, fun h => (g2 h).1⟩, Below.refl _ _, hG⟩
              simp [slotOf] at h66
              simp [execOp, go_sem, h66]
            · intro a W hG hR hO hp
              have h76 := hp.1
              obtain ⟨p, h76, g1⟩ := h76
              refine wp_yields (v := vi p) ?_ ⟨_, rfl, ⟨p, rfl, g1⟩, Below.refl _ _, hG⟩
              simp [slotOf] at h76
              simp [execOp, go_sem, h76]
          · intro wz8 hG hR
            rintro _ rfl _ - _ rfl _ - _ rfl _ rfl _ - _ - _ - _ - _ - _ ⟨qb, rfl, qb7, qb0⟩ _ ⟨pb, rfl, pb0⟩
            change wpList _ _ _ _ _ _
            simp only [Act.put, List.setIfInBounds_toArray, List.set_cons_zero, List.set_cons_succ, List.drop_succ_cons, List.drop_zero]
            have H19 := Lib.hid (And.intro ((newer_trans H18.out.1 hG)) (And.intro ((H18.out.2.1.below hG H18.out.2.1.lt)) (And.intro ((H18.out.2.2.1.below hG H18.out.2.2.1.lt)) (And.intro ((H18.out.2.2.2.1.next hG)) ((H18.out.2.2.2.2.below hG H18.out.2.2.2.2.lt))))))
            clear hG hR HUK H18 x0 x1 u0 u1
            have q0 := H19.out.2.2.2.2.at 0 (v := vi r0) rfl
            have q1 := H19.out.2.2.2.2.at 1 (v := vi r1) rfl
            rcases HK.out.eor with rfl | rfl
            · obtain rfl := qn7 rfl
              obtain rfl := qa7 rfl
              obtain rfl := qb7 rfl
              clear pn0 pa0 pb0 qn7 qn0 qa7 qa0 qb7 qb0
              rcases HEV.out.2.2 with rfl | rfl
              · go_wp2_with fail
                refine (wakes_any _).mono ?_
                rintro e w20 ⟨rfl, hb⟩
                have H21 := Lib.hid (And.intro ((newer_trans H19.out.1 hb)) (And.intro ((H19.out.2.1.below hb H19.out.2.1.lt)) (And.intro ((H19.out.2.2.1.below hb H19.out.2.2.1.lt)) (And.intro ((H19.out.2.2.2.1.next hb)) ((H19.out.2.2.2.2.below hb H19.out.2.2.2.2.lt))))))
                clear hb H19 q0 q1
                go_wp2_with fail
                go_ret
                exact ⟨rfl, H21.out.1⟩
              · go_wp2_with fail
                refine (wakes_any _).mono ?_
                rintro e w22 ⟨rfl, hb⟩
                have H23 := Lib.hid (And.intro ((newer_trans H19.out.1 hb)) (And.intro ((H19.out.2.1.below hb H19.out.2.1.lt)) (And.intro ((H19.out.2.2.1.below hb H19.out.2.2.1.lt)) (And.intro ((H19.out.2.2.2.1.next hb)) ((H19.out.2.2.2.2.below hb H19.out.2.2.2.2.lt))))))
                clear hb H19 q0 q1
                go_wp2_with fail
                go_ret
                exact ⟨rfl, H23.out.1⟩
            · obtain rfl := qn0 rfl
              obtain rfl := qa0 rfl
              obtain rfl := qb0 rfl
              obtain ⟨hn1, hn2⟩ := pn0 rfl
              obtain rfl : pa = r0 := by have h := pa0 rfl; omega
              obtain rfl : pb = r1 := by have h := pb0 rfl; omega
              have hlo := HK.out.low rfl
              rw [← HEV.out.1, ← HEV.out.2.1] at hlo
              obtain ⟨rfl, hlo⟩ := hlo
              clear pn0 pa0 pb0 qn7 qn0 qa7 qa0 qb7 qb0
              go_wp2_with fail
              refine (wakes_any _).mono ?_
              rintro e w24 ⟨rfl, hb⟩
              have H25 := Lib.hid (And.intro ((newer_trans H19.out.1 hb)) (And.intro ((H19.out.2.1.below hb H19.out.2.1.lt)) (And.intro ((H19.out.2.2.1.below hb H19.out.2.2.1.lt)) (And.intro ((H19.out.2.2.2.1.next hb)) ((H19.out.2.2.2.2.below hb H19.out.2.2.2.2.lt))))))
              clear hb H19 q0 q1
              go_wp2_with fail
              go_ret
              exact ⟨rfl, H25.out.1⟩
end
set_option maxRecDepth 100000 in
set_option maxHeartbeats 1000000 in
theorem slopeTruth_lifted (os : Os) (started : os.Started) (H : Type) (enc : TypeId × Value → H) :
    ReturnsInHanded {} Try.checked os 11 .any (Rows.slopeTruthSpec.pre6 enc Try.prog Try.f11 Rows.slopeTruthRow.domain false) (Rows.slopeTruthSpec.post enc Try.prog Try.f11 false true false false) := by
  refine returnsInHanded_of_change (C := Try.checked) Try.own started (by kernel_rfl) Try.func11
    (ChangeSpec.witness6 (enc := enc) (C := Try.checked) false ⟨#[], #[.agg #[.slice none 0 0, .int .i64 0], .slice none 0 0, .slice none 0 0], []⟩ 8 (by kernel_rfl) (by kernel_rfl) (by kernel_rfl) (by kernel_rfl)) ?_
  intro W base args ds gs before hval0 hW hcnd _
  have hval : ∀ (j : Nat) t v, Try.f11.params[j]? = some t → args[j]? = some v → Value.okWide Try.prog W .any base t v := hval0
  have hW' := hW
  obtain ⟨p, q, hA0, hV, rfl, hfz, hnd⟩ := hW
  have hA : DataW.TrodAll enc Try.prog W 0 (fun _ => true) true Try.f11.params.toList args.toList ds p := hA0
  rw [Try.params11] at hA hval
  obtain ⟨v0, vs0, d0, ds0, p0, q0, hargs, rfl, rfl, h0, r0⟩ := trodAll_cons hA
  obtain ⟨v1, vs1, d1, ds1, p1, q1, rfl, rfl, rfl, h1, r1⟩ := trodAll_cons r0
  obtain ⟨v2, vs2, d2, ds2, p2, q2, rfl, rfl, rfl, h2, r2⟩ := trodAll_cons r1
  obtain ⟨rfl, rfl, rfl⟩ := trodAll_nil r2
  obtain rfl : args = #[v0, v1, v2] := by cases args; simp_all
  obtain ⟨rfl, rfl⟩ := trodVars_none hV
  obtain ⟨c0, rfl, hs0⟩ := okWide_struct Try.underlying24 (hval 0 24 v0 rfl rfl)
  have k0 := h0
  have lt0 : ∀ x ∈ p0, x.block < W.heap.size := by obtain ⟨m, hm⟩ := k0; exact DataW.trod_lt m _ _ _ hm
  obtain ⟨g0, e0, hrow0⟩ : ∃ p : Sm, c0.toList = (smC p).toList ∧ SmOk p W := by
    obtain ⟨fuel, hf⟩ := h0
    exact slope_open hf
  obtain rfl : c0 = smC g0 := Array.toList_inj.1 e0
  obtain ⟨a1, len1, cap1, rfl⟩ := okWide_slice Try.underlying65 (hval 1 65 v1 rfl rfl)
  have k1 := h1
  have lt1 : ∀ x ∈ p1, x.block < W.heap.size := by obtain ⟨m, hm⟩ := k1; exact DataW.trod_lt m _ _ _ hm
  obtain ⟨D1, l1, dp1, e1, hl1, hrow1⟩ : ∃ (D : Option Addr) (l : List Byt) (dp : Nat), (Value.slice a1 len1 cap1).cells.toList = [.slice D l.length dp] ∧ l.length ≤ maxLen ∧ Row byL 1 W W.heap.size D l := by
    obtain ⟨fuel, hf⟩ := h1
    exact bytes_open hf
  simp [Value.cells] at e1
  obtain ⟨rfl, rfl, rfl⟩ := e1
  obtain ⟨a2, len2, cap2, rfl⟩ := okWide_slice Try.underlying76 (hval 2 76 v2 rfl rfl)
  have k2 := h2
  have lt2 : ∀ x ∈ p2, x.block < W.heap.size := by obtain ⟨m, hm⟩ := k2; exact DataW.trod_lt m _ _ _ hm
  obtain ⟨D2, l2, dp2, e2, hl2, hrow2⟩ : ∃ (D : Option Addr) (l : List Hlf) (dp : Nat), (Value.slice a2 len2 cap2).cells.toList = [.slice D l.length dp] ∧ l.length ≤ maxLen ∧ Row hwL 1 W W.heap.size D l := by
    obtain ⟨fuel, hf⟩ := h2
    exact halves_open hf
  simp [Value.cells] at e2
  obtain ⟨rfl, rfl, rfl⟩ := e2
  clear hA0 hval0
  refine (slopeTruth_walk g0 l1 a1 cap1 l2 a2 cap2 W hrow0 hrow1 hrow2).mono fun e W' ⟨he, bel⟩ => ?_
  subst he
  exact ⟨_, rfl, _, _, _, [], _, [], hW', trodAll_mk1 (shut_bool Try.underlying4 _), (trodAll_cons_mk (Below.trod Try.laidOut (by kernel_rfl) (of_decide_eq_true (by kernel_rfl)) k0 bel lt0) (trodAll_cons_mk (Below.trod Try.laidOut (by kernel_rfl) (of_decide_eq_true (by kernel_rfl)) k1 bel lt1) (trodAll_cons_mk (Below.trod Try.laidOut (by kernel_rfl) (of_decide_eq_true (by kernel_rfl)) k2 bel lt2) trodAll_mk0))), rfl, bel.frame _, fun h => by cases h⟩

theorem slopeTruth_holds : Rows.SlopeTruthSaid :=
  OpenClaim.holds_of_wide 11 Try.f11 rfl rfl rfl rfl rfl rfl rfl ⟨rfl, rfl, rfl, rfl, rfl⟩ rfl rfl rfl rfl rfl (by kernel_rfl) Try.func11 (by kernel_rfl)
    (of_decide_eq_true (by kernel_rfl)) (by unfold Func.isWrapper; first | (rw [if_pos (by decide +kernel)]; kernel_rfl) | (rw [if_neg (by decide +kernel)]; exact ⟨rfl, rfl⟩))
    (fun os started H enc _ => slopeTruth_lifted os started H enc)
#print axioms slopeTruth_holds

end Go.Proofs.Ytkenokpobbichaa
