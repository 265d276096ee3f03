/- SlopeSpans walked: it returns true, and leaves what was there. -/
import Derived.Test.YtkenokpobbichaaAI
namespace Go.Proofs.Ytkenokpobbichaa
open Go.RowKit Go.Shelf Go.Deep

def spanE (s : Sd) (frm : Int) (l : List Int) : Int := if checkUN s frm l = 0 then (if dK (bedsU s frm l) (bedsU s frm l).length < 1 then 7 else 0) else checkUN s frm l
def spanP (s : Sd) (frm : Int) (l : List Int) (hi : Bool) : Int := if spanE s frm l = 0 then facE (bedsU s frm l) hi else 0
theorem spanV_is (s : Sd) (frm : Int) (l : List Int) : spanV s frm l = .tuple #[.agg #[vi (spanP s frm l false), vi (spanP s frm l true)], vi (spanE s frm l)] := by
  unfold spanV spanP spanE
  by_cases h1 : checkUN s frm l = 0
  · rw [if_pos h1, if_pos h1]
    by_cases h2 : dK (bedsU s frm l) (bedsU s frm l).length < 1
    · rw [if_pos h2, if_pos h2, if_neg (by decide), if_neg (by decide)]
    · rw [if_neg h2, if_neg h2, if_pos rfl, if_pos rfl]
  · rw [if_neg h1, if_neg h1, if_neg h1, if_neg h1]
/-- A slope for the program, and a surface, in memory. -/
def vSlo (d : Sd) (v : Value) (W : World) : Prop := ∃ s : Sm, v = smV s ∧ s.sd = d ∧ SmOk s W
theorem vSlo_st {d : Sd} : ∀ v W W', vSlo d v W → newer W W' → vSlo d v W' := fun _ _ _ ⟨s, h1, h2, h3⟩ hb => ⟨s, h1, h2, h3.next hb⟩
def vSuf (frm : Int) (l : List Int) (v : Value) (W : World) : Prop := ∃ u : Su, v = suV u ∧ u.frm = frm ∧ u.beds = l ∧ SuOk u W
theorem vSuf_st {frm : Int} {l : List Int} : ∀ v W W', vSuf frm l v W → newer W W' → vSuf frm l v W' := fun _ _ _ ⟨u, h1, h2, h3, h4⟩ hb => ⟨u, h1, h2, h3, h4.next hb⟩
theorem few_sd {s s2 : Sm} (h : s2.sd = s.sd) (f : SmFew s) : SmFew s2 := by
  have hc : s2.cs.map (fun x => x.beds) = s.cs.map (fun x => x.beds) := congrArg Sd.cols h
  refine ⟨by have := congrArg List.length hc; simp at this; rw [this]; exact f.cs, fun x hx => ?_⟩
  have hm : x.beds ∈ s.cs.map (fun x => x.beds) := by rw [← hc]; exact List.mem_map.2 ⟨x, hx, rfl⟩
  obtain ⟨y, hy, hxy⟩ := List.mem_map.1 hm
  rw [← hxy]
  exact f.bd y hy
theorem facE_ge {bs : List Bd} (h : ∀ b ∈ bs, bdB b = true) (hi : Bool) (hd : ¬ dK bs bs.length < 1) : 0 ≤ facE bs hi := by
  unfold facE
  have h1 := hK_bd (l := bs) (tr := fun i => endR hi (bs.getD i zeroBd)) bs.length (Nat.le_refl _) h (fun i hi2 => by
    obtain ⟨b, hb⟩ := get_of_lt hi2
    have e : bs.getD i zeroBd = b := by simp [List.getD, hb]
    show rlB (endR hi (bs.getD i zeroBd)) = true
    rw [e]
    exact end_rlB (h b (List.mem_of_getElem? hb)) hi)
  exact (factor_bd h1.1 (by omega)).1
theorem spans_cases (s : Sd) (frm : Int) (l : List Int) (hb : checkUN s frm l = 0 → ∀ b ∈ bedsU s frm l, bdB b = true) :
    (¬ checkUN s frm l = 0 ∧ checkUN s frm l = spanE s frm l ∧ spanP s frm l false = 0 ∧ spanP s frm l true = 0) ∨
    (checkUN s frm l = 0 ∧ spanE s frm l = 7 ∧ spanP s frm l false = 0 ∧ spanP s frm l true = 0 ∧ refE (bedsU s frm l) false = -1 ∧ refE (bedsU s frm l) true = -1) ∨
    (checkUN s frm l = 0 ∧ spanE s frm l = 0 ∧ refE (bedsU s frm l) false = spanP s frm l false ∧ refE (bedsU s frm l) true = spanP s frm l true ∧ ¬ refE (bedsU s frm l) false < 0) := by
  unfold spanP spanE refE
  by_cases h1 : checkUN s frm l = 0
  · by_cases h2 : dK (bedsU s frm l) (bedsU s frm l).length < 1
    · simp [h1, h2]
    · have := facE_ge (hb h1) false h2
      simp [h1, h2]
      omega
  · simp [h1]
set_option maxRecDepth 100000 in
set_option maxHeartbeats 4000000 in
theorem slopeSpans_walk (s : Sm) (u : Su) (w : World) (hok : SmOk s w) (hu : SuOk u w) : Calls Try.prog 3 #[smV s, suV u] w fun e w' => e = .returned (.bool true) ∧ newer w w' := by
  have hnw : newer w ((w.alloc (.cells (smC s) 24)).alloc (.cells (suC u) 27)) := newer_trans (newer_allocH _ _) (newer_allocH _ _)
  have hxb := (Whole.made w 24 (smC s)).alloc (.cells (suC u) 27)
  have hub := Whole.made (w.alloc (.cells (smC s) 24)) 27 (suC u)
  rw [World.size_alloc] at hub
  have H0 := Lib.hid (And.intro hnw (And.intro hxb hub))
  have HTH := Lib.hid (lawThin s _ (hok.next hnw))
  have HOK := Lib.hid (And.intro hok hu)
  have x0 := hxb.at 0 (v := .slice s.a s.cs.length s.c) rfl
  have x1 := hxb.at 1 (v := vi s.least) rfl
  have u0 := hub.at 0 (v := vi u.frm) rfl
  have u1 := hub.at 1 (v := .slice u.a u.beds.length u.c) rfl
  clear hok hu hnw hxb hub
  cases ht : thinS s.sd with
  | false =>
    rw [ht] at HTH
    clear ht
    go_enter Try.func3, Try.ntmps3
    go_wp2_with fail
    refine (HTH.out).mono ?_
    rintro e w1 ⟨rfl, hb1⟩
    have H1 := Lib.hid (newer_trans H0.out.1 hb1)
    clear hb1 HTH H0 x0 x1 u0 u1
    go_wp2_with fail
    refine (wakes_any _).mono ?_
    rintro e wk ⟨rfl, hb⟩
    have HK := Lib.hid (newer_trans H1.out hb)
    clear hb
    go_wp2_with fail
    go_ret
    exact ⟨rfl, HK.out⟩
  | true =>
  by_cases h20 : 20 < u.beds.length
  · rw [ht] at HTH
    clear ht
    have h20i : (20 : Int) < u.beds.length := by omega
    go_enter Try.func3, Try.ntmps3
    go_wp2_with fail
    refine (HTH.out).mono ?_
    rintro e w1 ⟨rfl, hb1⟩
    have H1 := Lib.hid (newer_trans H0.out.1 hb1)
    have hu1 := H0.out.2.2.below hb1 H0.out.2.2.lt
    clear x0 x1 u0 u1
    have u0 := hu1.at 0 (v := vi u.frm) rfl
    have u1 := hu1.at 1 (v := .slice u.a u.beds.length u.c) rfl
    clear hu1 hb1 HTH H0
    go_wp2_with fail
    refine (wakes_any _).mono ?_
    rintro e wk ⟨rfl, hb⟩
    have HK := Lib.hid (newer_trans H1.out hb)
    clear hb
    go_wp2_with fail
    go_ret
    exact ⟨rfl, HK.out⟩
  · obtain ⟨few, hc15, hb8⟩ := thinS_few ht
    have HFW := Lib.hid few
    have HUL := Lib.hid (show u.beds.length ≤ 1000 by omega)
    rw [ht] at HTH
    have h20i : ¬ ((20 : Int) < u.beds.length) := by omega
    obtain ⟨p, hp⟩ : ∃ p, p = spanP s.sd u.frm u.beds false := ⟨_, rfl⟩
    obtain ⟨q, hq⟩ : ∃ q, q = spanP s.sd u.frm u.beds true := ⟨_, rfl⟩
    obtain ⟨e5, he5⟩ : ∃ e, e = spanE s.sd u.frm u.beds := ⟨_, rfl⟩
    have HSV := Lib.hid (spanV_is s.sd u.frm u.beds)
    rw [← hp, ← hq, ← he5] at HSV
    obtain ⟨a, ha⟩ : ∃ a, a = checkUN s.sd u.frm u.beds := ⟨_, rfl⟩
    have HFA : Hid (∀ W, newer w W → Calls Try.prog 21 #[smV s, suV u] W fun e w' => e = .returned (vi a) ∧ newer W w') := Lib.hid (fun W hW => by rw [ha]; exact fault_any s u W (HOK.out.1.next hW) few (HOK.out.2.next hW) (by omega))
    have hbu : a = 0 → ∀ b ∈ bedsU s.sd u.frm u.beds, bdB b = true := fun h => by
      obtain ⟨hs, hsf⟩ := checkU_zero (ha ▸ h)
      obtain ⟨p1, p2, p3⟩ := surfB_parts hs hsf
      unfold bedsU
      have h1 := p3.2.1
      rw [sd_len] at h1
      exact bedsL_ok hs p3.2.2 h1
    have HRS : Hid (a = 0 → ∀ W, newer w W → Calls Try.prog 22 #[smV s, suV u] W fun e w' => e = .returned (rgV ⟨refE (bedsU s.sd u.frm u.beds) false, refE (bedsU s.sd u.frm u.beds) true⟩) ∧ newer W w') := Lib.hid (fun h W hW => by
      obtain ⟨hs, hsf⟩ := checkU_zero (ha ▸ h)
      obtain ⟨p1, p2, p3⟩ := surfB_parts hs hsf
      rw [sd_len] at p3
      exact refSpan_any s u u.frm.toNat (u.beds.map Int.toNat) W (HOK.out.1.next hW) hs (HOK.out.2.next hW) p1 p2 p3)
    have HCS := Lib.hid (spans_cases s.sd u.frm u.beds (ha ▸ hbu))
    obtain ⟨r0, hr0⟩ : ∃ r, r = refE (bedsU s.sd u.frm u.beds) false := ⟨_, rfl⟩
    obtain ⟨r1, hr1⟩ : ∃ r, r = refE (bedsU s.sd u.frm u.beds) true := ⟨_, rfl⟩
    rw [← hr0, ← hr1] at HRS
    rw [← ha, ← hp, ← hq, ← he5, ← hr0, ← hr1] at HCS
    clear ht few hc15 hb8 hp hq he5 ha hbu hr0 hr1
    go_enter Try.func3, Try.ntmps3
    go_wp2_with fail
    refine (HTH.out).mono ?_
    rintro e w1 ⟨rfl, hb1⟩
    have H1 := Lib.hid (And.intro (newer_trans H0.out.1 hb1) (And.intro (H0.out.2.1.below hb1 H0.out.2.1.lt) (H0.out.2.2.below hb1 H0.out.2.2.lt)))
    clear x0 x1 u0 u1 hb1 HTH H0
    have x0 := H1.out.2.1.at 0 (v := .slice s.a s.cs.length s.c) rfl
    have x1 := H1.out.2.1.at 1 (v := vi s.least) rfl
    have u0 := H1.out.2.2.at 0 (v := vi u.frm) rfl
    have u1 := H1.out.2.2.at 1 (v := .slice u.a u.beds.length u.c) rfl
    go_upto_region 3 with fail
    obtain ⟨wv, hwv⟩ : ∃ wv, wv = w1 := ⟨_, rfl⟩
    rw [← hwv] at H1 x0 x1 u0 u1 ⊢
    clear hwv w1
    have HN := Lib.hid H1.out.1
    refine wp_words (by kernel_rfl) (region_late 10 9 (by kernel_rfl) (by kernel_rfl) (by decide) (by kernel_rfl) (fun W => Below wv.heap.size wv W) (pickB [vIs (smV s), vSlo s.sd, vIs (suV u), vSuf u.frm u.beds, vIs (.tuple #[.agg #[vi p, vi q], vi e5]), vIs (.tuple #[.agg #[vi p, vi q], vi e5]), vIs (.agg #[vi p, vi q]), vIs (vi e5), vNew wv.heap.size 31 #[vi 0, vi 0], (fun _ _ => True)] [(fun _ _ => True), (fun _ _ => True), (fun _ _ => True), (fun _ _ => True), (fun _ _ => True), vIs (.tuple #[.agg #[vi p, vi q], vi e5]), (fun _ _ => True), vIs (vi e5), vNew wv.heap.size 31 #[vi p, vi q], (fun _ _ => True)]) (pickB_stable ⟨vIs_st, vSlo_st, vIs_st, vSuf_st, vIs_st, vIs_st, vIs_st, vIs_st, vNew_st, (fun _ _ _ h _ => h), trivial⟩ ⟨(fun _ _ _ h _ => h), (fun _ _ _ h _ => h), (fun _ _ _ h _ => h), (fun _ _ _ h _ => h), (fun _ _ _ h _ => h), vIs_st, (fun _ _ _ h _ => h), vIs_st, vNew_st, (fun _ _ _ h _ => h), trivial⟩) (Below.refl _ wv).drew ?_ ?_)
    · refine ⟨?_, ?_, ?_, ?_, ?_, ?_, ?_, ?_, ?_, ?_, trivial⟩
      · intro a W hG hO hp
        have h2 := hO.slot 2 (by kernel_rfl)
        have c0 := keep_cell x0 hG
        have c1 := keep_cell x1 hG
        refine wp_yields (v := smV s) ?_ ⟨_, rfl, rfl, Below.refl _ _, hG⟩
        simp [slotOf] at h2
        simp [execOp, go_sem, h2, c0, c1]
      · intro a W hG hO hp
        have h19 : slotOf a 19 = smV s := hp.1
        refine wp_enters (f := 19) (args := #[smV s]) ?_ ((lawSlope s W (HOK.out.1.next (newer_trans HN.out hG)) HFW.out).mono ?_)
        · simp [slotOf] at h19
          simp [go_sem, h19]
        · rintro e w' ⟨s2, rfl, h1, h2, hb⟩
          exact ⟨_, rfl, _, rfl, ⟨s2, rfl, h1, h2⟩, hb, below_next hG hb⟩
      · intro a W hG hO hp
        have h3 := hO.slot 3 (by kernel_rfl)
        have c0 := keep_cell u0 hG
        have c1 := keep_cell u1 hG
        refine wp_yields (v := suV u) ?_ ⟨_, rfl, rfl, Below.refl _ _, hG⟩
        simp [slotOf] at h3
        simp [execOp, go_sem, h3, c0, c1]
      · intro a W hG hO hp
        have h21 : slotOf a 21 = suV u := hp.1
        refine wp_enters (f := 20) (args := #[suV u]) ?_ ((lawSurface u W (HOK.out.2.next (newer_trans HN.out hG)) HUL.out).mono ?_)
        · simp [slotOf] at h21
          simp [go_sem, h21]
        · rintro e w' ⟨u2, rfl, h1, h2, h3, hb⟩
          exact ⟨_, rfl, _, rfl, ⟨u2, rfl, h1, h2, h3⟩, hb, below_next hG hb⟩
      · intro a W hG hO hp
        have h20 := hp.1
        have h22 := hp.2.1
        obtain ⟨s2, h20, hd2, hs2⟩ := h20
        obtain ⟨u2, h22, hf2, hl2, hu2⟩ := h22
        have hsp := span_any s2 u2 W hs2 (few_sd hd2 HFW.out) hu2 (by rw [hl2]; exact HUL.out)
        rw [hd2, hf2, hl2, HSV.out] at hsp
        refine wp_enters (f := 18) (args := #[smV s2, suV u2]) ?_ (hsp.mono ?_)
        · simp [slotOf] at h20 h22
          simp [go_sem, h20, h22]
        · rintro e w' ⟨rfl, hb⟩
          exact ⟨_, rfl, _, rfl, rfl, hb, below_next hG hb⟩
      · intro a W hG hO hp
        have h23 : slotOf a 23 = .tuple #[.agg #[vi p, vi q], vi e5] := hp.1
        refine wp_yields (v := .tuple #[.agg #[vi p, vi q], vi e5]) ?_ ⟨_, rfl, rfl, Below.refl _ _, hG⟩
        simp [slotOf] at h23
        simp [execOp, go_sem, h23]
      · intro a W hG hO hp
        have h18 : slotOf a 18 = .tuple #[.agg #[vi p, vi q], vi e5] := hp.1
        refine wp_yields (v := .agg #[vi p, vi q]) ?_ ⟨_, rfl, rfl, Below.refl _ _, hG⟩
        simp [slotOf] at h18
        simp [execOp, go_sem, h18]
      · intro b a W hG hO hp
        have h18 : slotOf a 18 = .tuple #[.agg #[vi p, vi q], vi e5] := by cases b <;> exact hp.1
        refine wp_yields (v := vi e5) ?_ ⟨_, rfl, (by cases b <;> rfl), Below.refl _ _, hG⟩
        simp [slotOf] at h18
        simp [execOp, go_sem, h18]
      · intro a W hG hO hp
        refine wp_makes (v := .pointer (some ⟨W.heap.size, 0, none⟩)) (W' := W.alloc (.cells #[vi 0, vi 0] 31)) ?_ ⟨_, rfl, ⟨_, rfl, hG.size, Whole.made _ _ _⟩, newer_allocH _ _, below_next hG (newer_allocH _ _)⟩
        skip
        simp [execOp, go_sem]
      · intro a W hG hO hp
        have h5 := hp.1
        have h24 : slotOf a 24 = .agg #[vi p, vi q] := hp.2.1
        obtain ⟨fb, h5, hfb, hwf⟩ := h5
        have b0 := hwf.at 0 rfl
        have b1 := hwf.at 1 rfl
        have f0 := hwf.free 0
        have f1 := hwf.free 1
        have hq := h5
        simp [slotOf] at h5 h24
        refine wp_storesE (W' := (W.setCell ⟨fb, 0, none⟩ (vi p)).setCell ⟨fb, 1, none⟩ (vi q)) (by simp [execOp, go_sem, h5, h24, b0, b1, f0, f1]) ⟨rfl, (hG.setCell (p := ⟨fb, 0, none⟩) hfb _).setCell (p := ⟨fb, 1, none⟩) hfb _, ?_⟩
        intro j oj d hj hoj hd hD
        match j, hoj, hD with
        | 0, _, _ => trivial
        | 1, _, _ => trivial
        | 2, _, _ => trivial
        | 3, _, _ => trivial
        | 4, _, _ => trivial
        | 5, _, hD =>
          exact hD
        | 6, _, _ => trivial
        | 7, _, hD =>
          exact hD
        | 8, hoj, _ =>
          obtain rfl := Option.some.inj hoj
          obtain rfl := Option.some.inj hd
          exact ⟨fb, hq, hfb, (hwf.set 0 _).set 1 _⟩
        | 9, _, _ => trivial
        | (_ + 10), _, _ => omega
    · intro wz hG
      rintro _ - _ - _ - _ - _ - _ - _ - _ rfl _ ⟨fb, rfl, hfb, hwf⟩
      change wpList _ _ _ _ _ _
      simp only [Act.put, List.setIfInBounds_toArray, List.set_cons_zero, List.set_cons_succ, List.drop_succ_cons, List.drop_zero]
      have HN4 := Lib.hid (newer_trans H1.out.1 hG)
      have H4 := Lib.hid (And.intro (H1.out.2.1.below hG H1.out.2.1.lt) (And.intro (H1.out.2.2.below hG H1.out.2.2.lt) hwf))
      clear x0 x1 u0 u1 hG hwf hfb H1 HN
      have x0 := H4.out.1.at 0 (v := .slice s.a s.cs.length s.c) rfl
      have x1 := H4.out.1.at 1 (v := vi s.least) rfl
      have u0 := H4.out.2.1.at 0 (v := vi u.frm) rfl
      have u1 := H4.out.2.1.at 1 (v := .slice u.a u.beds.length u.c) rfl
      go_wp2_with fail
      refine (HFA.out _ HN4.out).mono ?_
      rintro e w5 ⟨rfl, hb⟩
      have HN5 := Lib.hid (newer_trans HN4.out hb)
      have H5 := Lib.hid (And.intro (H4.out.1.below hb H4.out.1.lt) (And.intro (H4.out.2.1.below hb H4.out.2.1.lt) (H4.out.2.2.below hb H4.out.2.2.lt)))
      clear x0 x1 u0 u1 hb H4 HN4 HFA
      have x0 := H5.out.1.at 0 (v := .slice s.a s.cs.length s.c) rfl
      have x1 := H5.out.1.at 1 (v := vi s.least) rfl
      have u0 := H5.out.2.1.at 0 (v := vi u.frm) rfl
      have u1 := H5.out.2.1.at 1 (v := .slice u.a u.beds.length u.c) rfl
      have q0 := H5.out.2.2.at 0 (v := vi p) rfl
      have q1 := H5.out.2.2.at 1 (v := vi q) rfl
      rcases HCS.out with ⟨hA, rfl, rfl, rfl⟩ | ⟨rfl, rfl, rfl, rfl, rfl, rfl⟩ | ⟨rfl, rfl, rfl, rfl, hN⟩
      · clear HCS HRS HSV x0 x1 u0 u1
        go_wp2_with fail
        refine (wakes_any _).mono ?_
        rintro e wk ⟨rfl, hb⟩
        have HK := Lib.hid (newer_trans HN5.out hb)
        clear hb
        go_wp2_with fail
        go_ret
        exact ⟨rfl, HK.out⟩
      · have HR2 : Hid (∀ W, newer w W → Calls Try.prog 22 #[smV s, suV u] W fun e w' => e = .returned (.agg #[vi (-1), vi (-1)]) ∧ newer W w') := Lib.hid (HRS.out rfl)
        clear HCS HRS HSV
        go_wp2_with fail
        refine (HR2.out _ HN5.out).mono ?_
        rintro e w6 ⟨rfl, hb⟩
        have HN6 := Lib.hid (newer_trans HN5.out hb)
        have q0 := (H5.out.2.2.below hb H5.out.2.2.lt).at 0 (v := vi 0) rfl
        have q1 := (H5.out.2.2.below hb H5.out.2.2.lt).at 1 (v := vi 0) rfl
        clear x0 x1 u0 u1 hb H5 HN5
        go_wp2_with fail
        refine (wakes_any _).mono ?_
        rintro e wk ⟨rfl, hb⟩
        have HK := Lib.hid (newer_trans HN6.out hb)
        clear hb
        go_wp2_with fail
        go_ret
        exact ⟨rfl, HK.out⟩
      · have HR2 : Hid (∀ W, newer w W → Calls Try.prog 22 #[smV s, suV u] W fun e w' => e = .returned (.agg #[vi r0, vi r1]) ∧ newer W w') := Lib.hid (HRS.out rfl)
        have HR3 := Lib.hid (HRS.out rfl)
        clear HCS HRS HSV
        go_wp2_with fail
        refine (HR2.out _ HN5.out).mono ?_
        rintro e w6 ⟨rfl, hb⟩
        have H6 := Lib.hid (And.intro (newer_trans HN5.out hb) (And.intro (H5.out.1.below hb H5.out.1.lt) (And.intro (H5.out.2.1.below hb H5.out.2.1.lt) (H5.out.2.2.below hb H5.out.2.2.lt))))
        clear x0 x1 u0 u1 q0 q1 hb H5 HN5
        have x0 := H6.out.2.1.at 0 (v := .slice s.a s.cs.length s.c) rfl
        have x1 := H6.out.2.1.at 1 (v := vi s.least) rfl
        have u0 := H6.out.2.2.1.at 0 (v := vi u.frm) rfl
        have u1 := H6.out.2.2.1.at 1 (v := .slice u.a u.beds.length u.c) rfl
        have q0 := H6.out.2.2.2.at 0 (v := vi r0) rfl
        have q1 := H6.out.2.2.2.at 1 (v := vi r1) rfl
        go_upto_region 9 with fail
        refine wp_words (by kernel_rfl) (region_told_u 13 (by kernel_rfl) (by kernel_rfl) [false, false, false, false, false, false, false, false, false, false, false, false, false] (fun W => Below w6.heap.size w6 W) newer [vIs (vi 0), vIs (.bool true), vIs (.bool true), vIs (.agg #[vi r0, vi r1]), vIs (smV s), vIs (suV u), vIs (rgV ⟨r0, r1⟩), vIs (.agg #[vi r0, vi r1]), vIs (.bool true), vIs (.bool true), vIs (.bool true), vIs (.bool true), vIs (.bool true)] ⟨rfl, rfl, rfl, (fun v W h => by obtain rfl : v = _ := h; rfl), (fun v W h => by obtain rfl : v = _ := h; rfl), (fun v W h => by obtain rfl : v = _ := h; rfl), (fun v W h => by obtain rfl : v = _ := h; rfl), (fun v W h => by obtain rfl : v = _ := h; rfl), (fun v W h => by obtain rfl : v = _ := h; rfl), rfl, rfl, (fun v W h => by obtain rfl : v = _ := h; rfl), rfl, trivial⟩ ⟨(fun h => Bool.noConfusion (show false = true from h)), (fun h => Bool.noConfusion (show false = true from h)), (fun h => Bool.noConfusion (show false = true from h)), (fun h => Bool.noConfusion (show false = true from h)), (fun h => Bool.noConfusion (show false = true from h)), (fun h => Bool.noConfusion (show false = true from h)), (fun h => Bool.noConfusion (show false = true from h)), (fun h => Bool.noConfusion (show false = true from h)), (fun h => Bool.noConfusion (show false = true from h)), (fun h => Bool.noConfusion (show false = true from h)), (fun h => Bool.noConfusion (show false = true from h)), (fun h => Bool.noConfusion (show false = true from h)), (fun h => Bool.noConfusion (show false = true from h)), trivial⟩ (fun h k => newer_trans h k) (pickD_stable _ ⟨vIs_st, vIs_st, vIs_st, vIs_st, vIs_st, vIs_st, vIs_st, vIs_st, vIs_st, vIs_st, vIs_st, vIs_st, vIs_st, trivial⟩) (Below.refl _ w6).drew (Below.refl _ _) ?_ ?_)
        · refine ⟨.inr ?_, .inr ?_, .inr ?_, .inr ?_, .inr ?_, .inr ?_, .inr ?_, .inr ?_, .inr ?_, .inr ?_, .inr ?_, .inr ?_, .inr ?_, trivial⟩
          · intro a W hG hR hO hp
            have h6 := hO.slot 6 (by kernel_rfl)
            refine wp_yields (v := vi 0) ?_ ⟨_, rfl, rfl, Below.refl _ _, hG⟩
            simp [slotOf] at h6
            simp [execOp, go_sem, h6]
          · intro a W hG hR hO hp
            have h51 : slotOf a 51 = vi 0 := hp.1
            refine wp_yields (v := .bool true) ?_ ⟨_, rfl, rfl, Below.refl _ _, hG⟩
            simp [slotOf] at h51
            simp [execOp, go_sem, h51]
          · intro a W hG hR hO hp
            have h52 : slotOf a 52 = .bool true := hp.1
            refine wp_yields (v := .bool true) ?_ ⟨_, rfl, rfl, Below.refl _ _, hG⟩
            simp [slotOf] at h52
            simp [execOp, go_sem, h52]
          · intro a W hG hR hO hp
            have h5 := hO.slot 5 (by kernel_rfl)
            have c0 := keep_cell q0 hG
            have c1 := keep_cell q1 hG
            refine wp_yields (v := .agg #[vi r0, vi r1]) ?_ ⟨_, rfl, rfl, Below.refl _ _, hG⟩
            simp [slotOf] at h5
            simp [execOp, go_sem, h5, c0, c1]
          · intro a W hG hR hO hp
            have h2 := hO.slot 2 (by kernel_rfl)
            have c0 := keep_cell x0 hG
            have c1 := keep_cell x1 hG
            refine wp_yields (v := smV s) ?_ ⟨_, rfl, rfl, Below.refl _ _, hG⟩
            simp [slotOf] at h2
            simp [execOp, go_sem, h2, c0, c1]
          · intro a W hG hR hO hp
            have h3 := hO.slot 3 (by kernel_rfl)
            have c0 := keep_cell u0 hG
            have c1 := keep_cell u1 hG
            refine wp_yields (v := suV u) ?_ ⟨_, rfl, rfl, Below.refl _ _, hG⟩
            simp [slotOf] at h3
            simp [execOp, go_sem, h3, c0, c1]
          · intro a W hG hR hO hp
            have h55 : slotOf a 55 = smV s := hp.1
            have h56 : slotOf a 56 = suV u := hp.2.1
            refine wp_enters (f := 22) (args := #[smV s, suV u]) ?_ ((HR3.out W (newer_trans H6.out.1 hG)).mono ?_)
            · simp [slotOf] at h55 h56
              simp [go_sem, h55, h56]
            · rintro e w' ⟨rfl, hb⟩
              exact ⟨_, rfl, _, rfl, rfl, hb, below_next hG hb⟩
          · intro a W hG hR hO hp
            have h57 : slotOf a 57 = rgV ⟨r0, r1⟩ := hp.1
            refine wp_enters (f := 23) (args := #[rgV ⟨r0, r1⟩]) ?_ ((to_any ⟨r0, r1⟩ W).mono ?_)
            · simp [slotOf] at h57
              simp [go_sem, h57]
            · rintro e w' ⟨rfl, hb⟩
              exact ⟨_, rfl, _, rfl, rfl, hb, below_next hG hb⟩
          · intro a W hG hR hO hp
            have h54 : slotOf a 54 = .agg #[vi r0, vi r1] := hp.1
            have h58 : slotOf a 58 = .agg #[vi r0, vi r1] := hp.2.1
            refine wp_yields (v := .bool true) ?_ ⟨_, rfl, rfl, Below.refl _ _, hG⟩
            exact exec_eq31 rfl ((eval_slot a 54).trans h54) ((eval_slot a 58).trans h58)
          · intro a W hG hR hO hp
            have h53 : slotOf a 53 = .bool true := hp.1
            have h59 : slotOf a 59 = .bool true := hp.2.1
            refine wp_yields (v := .bool true) ?_ ⟨_, rfl, rfl, Below.refl _ _, hG⟩
            simp [slotOf] at h53 h59
            simp [execOp, go_sem, h53, h59]
          · intro a W hG hR hO hp
            have h60 : slotOf a 60 = .bool true := hp.1
            refine wp_yields (v := .bool true) ?_ ⟨_, rfl, rfl, Below.refl _ _, hG⟩
            simp [slotOf] at h60
            simp [execOp, go_sem, h60]
          · intro a W hG hR hO hp
            refine wp_enters (f := 17) (args := #[]) ?_ ((wakes_any W).mono ?_)
            · skip
              simp [go_sem]
            · rintro e w' ⟨rfl, hb⟩
              exact ⟨_, rfl, _, rfl, rfl, hb, below_next hG hb⟩
          · intro a W hG hR hO hp
            have h61 : slotOf a 61 = .bool true := hp.1
            have h62 : slotOf a 62 = .bool true := hp.2.1
            refine wp_yields (v := .bool true) ?_ ⟨_, rfl, rfl, Below.refl _ _, hG⟩
            simp [slotOf] at h61 h62
            simp [execOp, go_sem, h61, h62]
        · intro wz3 hG hR
          rintro _ rfl _ rfl _ rfl _ rfl _ rfl _ rfl _ rfl _ rfl _ rfl _ rfl _ rfl _ rfl _ rfl
          change wpList _ _ _ _ _ _
          simp only [Act.put, List.setIfInBounds_toArray, List.set_cons_zero, List.set_cons_succ, List.drop_succ_cons, List.drop_zero]
          have HE := Lib.hid (newer_trans H6.out.1 hG)
          clear hG hR x0 x1 u0 u1 q0 q1 H6
          go_wp2_with fail
          go_ret
          exact ⟨rfl, HE.out⟩

end Go.Proofs.Ytkenokpobbichaa
