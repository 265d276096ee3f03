/- A truth for the program; the factor of a surface in a truth. -/
import Derived.Test.YtkenokpobbichaaAH
namespace Go.Proofs.Ytkenokpobbichaa
open Go.RowKit Go.Shelf Go.Deep

theorem info_rl101 : (Try.prog.info? 101).map (fun i => (i.zero, i.size, i.bytes)) = some (some (.agg #[vi 0, vi 0, vi 0]), 3, 24) := by kernel_rfl
set_option maxRecDepth 100000 in
set_option maxHeartbeats 1000000 in
theorem lawTruth (tl : List Rl) (A : Option Addr) (c : Nat) (w : World) (hl : tl.length ≤ 1000) (hr : Row rlL 3 w w.heap.size A tl) : Calls Try.prog 43 #[.slice A tl.length c] w fun e w' => ∃ B d, e = .returned (.slice B tl.length d) ∧ Row rlL 3 w' w'.heap.size B tl ∧ newer w w' := by
  have HR := Lib.hid hr
  obtain ⟨i8, hj0, hy0, hy1, hy2⟩ := info_parts info_rl101
  have HI8 := Lib.hid (And.intro hj0 (And.intro hy0 (And.intro hy1 hy2)))
  clear hr hj0 hy0 hy1 hy2
  go_enter Try.func43, Try.ntmps43
  go_wp2_with fail
  go_loopw [3, 4] (fun s3 s4 wr => ∃ (k : Nat) (B : Option Addr) (d : Nat), s4 = vi k ∧ k ≤ tl.length ∧ s3 = .slice B k d ∧ newer w wr ∧ wr.ownsRow w.heap.size 101 3 (.slice B k d) k ((tl.take k).flatMap rlL)) (fun _ s4 _ => tl.length - (intOf s4).toNat)
  case atStart => exact ⟨0, none, 0, rfl, Nat.zero_le _, rfl, newer_refl _, ⟨rfl, .inl ⟨rfl, rfl⟩⟩⟩
  case round =>
    obtain ⟨k, B, d, rfl, hk, rfl, hn, hown⟩ := hrel
    have HQ := Lib.hid (And.intro hn hown)
    clear hn hown
    by_cases hlt : k < tl.length
    · obtain ⟨y, hy⟩ := get_of_lt hlt
      obtain ⟨bt, ot, rfl, _, r0, r1, r2⟩ := row3 (HR.out.below HQ.out.1) hy
      have hkt : (k : Int) < tl.length := by omega
      have HY := Lib.hid hy
      clear hy
      go_upto_region 5 with fail
      refine wp_words (by kernel_rfl) (region_told 18 (by kernel_rfl) (by kernel_rfl) (fun W => Below wr.heap.size wr W) newer (pickD [vIs (.slice B k d), vIs (.slice (some ⟨bt, ot, none⟩) tl.length c), vIs (vi k), vIs (.pointer (some ⟨bt, ot + k * 3, none⟩)), vIs (.pointer (some ⟨bt, ot + k * 3, none⟩)), vIs (vi y.fr), vIs (.slice (some ⟨bt, ot, none⟩) tl.length c), vIs (vi k), vIs (.pointer (some ⟨bt, ot + k * 3, none⟩)), vIs (.pointer (some ⟨bt, ot + k * 3 + 1, none⟩)), vIs (vi y.co), vIs (.slice (some ⟨bt, ot, none⟩) tl.length c), vIs (vi k), vIs (.pointer (some ⟨bt, ot + k * 3, none⟩)), vIs (.pointer (some ⟨bt, ot + k * 3 + 2, none⟩)), vIs (vi y.wa), vIs (rlV y), vOne wr.heap.size 101 (rlC y)]) (fun h k => newer_trans h k) (pickD_stable _ ⟨vIs_st, vIs_st, vIs_st, vIs_st, vIs_st, vIs_st, vIs_st, vIs_st, vIs_st, vIs_st, vIs_st, vIs_st, vIs_st, vIs_st, vIs_st, vIs_st, vIs_st, vOne_st, trivial⟩) (Below.refl _ wr).drew (Below.refl _ _) ?_ ?_)
      · refine ⟨?_, ?_, ?_, ?_, ?_, ?_, ?_, ?_, ?_, ?_, ?_, ?_, ?_, ?_, ?_, ?_, ?_, ?_, trivial⟩
        · intro a W hG hR hO hp
          have h3 := hO.slot 3 (by kernel_rfl)
          refine wp_yields (v := .slice B k d) ?_ ⟨_, rfl, rfl, Below.refl _ _, hG⟩
          simp [slotOf] at h3
          simp [execOp, go_sem, h3]
        · intro a W hG hR hO hp
          have h0 := hO.slot 0 (by kernel_rfl)
          refine wp_yields (v := .slice (some ⟨bt, ot, none⟩) tl.length c) ?_ ⟨_, rfl, rfl, Below.refl _ _, hG⟩
          simp [slotOf] at h0
          simp [execOp, go_sem, h0]
        · intro a W hG hR hO hp
          have h4 := hO.slot 4 (by kernel_rfl)
          refine wp_yields (v := vi k) ?_ ⟨_, rfl, rfl, Below.refl _ _, hG⟩
          simp [slotOf] at h4
          simp [execOp, go_sem, h4]
        · intro a W hG hR hO hp
          have h12 : slotOf a 12 = .slice (some ⟨bt, ot, none⟩) tl.length c := hp.1
          have h13 : slotOf a 13 = vi k := hp.2.1
          refine wp_yields (v := .pointer (some ⟨bt, ot + k * 3, none⟩)) ?_ ⟨_, rfl, rfl, Below.refl _ _, hG⟩
          simp [slotOf] at h12 h13
          simp [execOp, go_sem, h12, h13, hkt]
        · intro a W hG hR hO hp
          have h14 : slotOf a 14 = .pointer (some ⟨bt, ot + k * 3, none⟩) := hp.1
          refine wp_yields (v := .pointer (some ⟨bt, ot + k * 3, none⟩)) ?_ ⟨_, rfl, rfl, Below.refl _ _, hG⟩
          simp [slotOf] at h14
          simp [execOp, go_sem, h14]
        · intro a W hG hR hO hp
          have h15 : slotOf a 15 = .pointer (some ⟨bt, ot + k * 3, none⟩) := hp.1
          have c0 := keep_cell r0 hG
          refine wp_yields (v := vi y.fr) ?_ ⟨_, rfl, rfl, Below.refl _ _, hG⟩
          simp [slotOf] at h15
          simp [execOp, go_sem, h15, c0]
        · intro a W hG hR hO hp
          have h0 := hO.slot 0 (by kernel_rfl)
          refine wp_yields (v := .slice (some ⟨bt, ot, none⟩) tl.length c) ?_ ⟨_, rfl, rfl, Below.refl _ _, hG⟩
          simp [slotOf] at h0
          simp [execOp, go_sem, h0]
        · intro a W hG hR hO hp
          have h4 := hO.slot 4 (by kernel_rfl)
          refine wp_yields (v := vi k) ?_ ⟨_, rfl, rfl, Below.refl _ _, hG⟩
          simp [slotOf] at h4
          simp [execOp, go_sem, h4]
        · intro a W hG hR hO hp
          have h17 : slotOf a 17 = .slice (some ⟨bt, ot, none⟩) tl.length c := hp.1
          have h18 : slotOf a 18 = vi k := hp.2.1
          refine wp_yields (v := .pointer (some ⟨bt, ot + k * 3, none⟩)) ?_ ⟨_, rfl, rfl, Below.refl _ _, hG⟩
          simp [slotOf] at h17 h18
          simp [execOp, go_sem, h17, h18, hkt]
        · intro a W hG hR hO hp
          have h19 : slotOf a 19 = .pointer (some ⟨bt, ot + k * 3, none⟩) := hp.1
          refine wp_yields (v := .pointer (some ⟨bt, ot + k * 3 + 1, none⟩)) ?_ ⟨_, rfl, rfl, Below.refl _ _, hG⟩
          simp [slotOf] at h19
          simp [execOp, go_sem, h19]
        · intro a W hG hR hO hp
          have h20 : slotOf a 20 = .pointer (some ⟨bt, ot + k * 3 + 1, none⟩) := hp.1
          have c0 := keep_cell r1 hG
          refine wp_yields (v := vi y.co) ?_ ⟨_, rfl, rfl, Below.refl _ _, hG⟩
          simp [slotOf] at h20
          simp [execOp, go_sem, h20, c0]
        · intro a W hG hR hO hp
          have h0 := hO.slot 0 (by kernel_rfl)
          refine wp_yields (v := .slice (some ⟨bt, ot, none⟩) tl.length c) ?_ ⟨_, rfl, rfl, Below.refl _ _, hG⟩
          simp [slotOf] at h0
          simp [execOp, go_sem, h0]
        · intro a W hG hR hO hp
          have h4 := hO.slot 4 (by kernel_rfl)
          refine wp_yields (v := vi k) ?_ ⟨_, rfl, rfl, Below.refl _ _, hG⟩
          simp [slotOf] at h4
          simp [execOp, go_sem, h4]
        · intro a W hG hR hO hp
          have h22 : slotOf a 22 = .slice (some ⟨bt, ot, none⟩) tl.length c := hp.1
          have h23 : slotOf a 23 = vi k := hp.2.1
          refine wp_yields (v := .pointer (some ⟨bt, ot + k * 3, none⟩)) ?_ ⟨_, rfl, rfl, Below.refl _ _, hG⟩
          simp [slotOf] at h22 h23
          simp [execOp, go_sem, h22, h23, hkt]
        · intro a W hG hR hO hp
          have h24 : slotOf a 24 = .pointer (some ⟨bt, ot + k * 3, none⟩) := hp.1
          refine wp_yields (v := .pointer (some ⟨bt, ot + k * 3 + 2, none⟩)) ?_ ⟨_, rfl, rfl, Below.refl _ _, hG⟩
          simp [slotOf] at h24
          simp [execOp, go_sem, h24]
        · intro a W hG hR hO hp
          have h25 : slotOf a 25 = .pointer (some ⟨bt, ot + k * 3 + 2, none⟩) := hp.1
          have c0 := keep_cell r2 hG
          refine wp_yields (v := vi y.wa) ?_ ⟨_, rfl, rfl, Below.refl _ _, hG⟩
          simp [slotOf] at h25
          simp [execOp, go_sem, h25, c0]
        · intro a W hG hR hO hp
          have h16 : slotOf a 16 = vi y.fr := hp.1
          have h21 : slotOf a 21 = vi y.co := hp.2.1
          have h26 : slotOf a 26 = vi y.wa := hp.2.2.1
          refine wp_yields (v := rlV y) ?_ ⟨_, rfl, rfl, Below.refl _ _, hG⟩
          simp [slotOf] at h16 h21 h26
          simp [execOp, go_sem, h16, h21, h26]
        · intro a W hG hR hO hp
          have h27 : slotOf a 27 = rlV y := hp.1
          refine wp_makes (v := .slice (some ⟨W.heap.size, 0, none⟩) 1 1) (W' := W.alloc (.cells (rlC y) 101)) ?_ ⟨_, rfl, ⟨_, rfl, hG.size, Whole.made _ _ _⟩, newer_allocH _ _, below_next hG (newer_allocH _ _)⟩
          simp [slotOf] at h27
          simp [execOp, go_sem, h27]
      · intro wz hG hR
        rintro _ rfl _ rfl _ rfl _ rfl _ rfl _ rfl _ rfl _ rfl _ rfl _ rfl _ rfl _ rfl _ rfl _ rfl _ rfl _ rfl _ rfl _ ⟨nb, rfl, hnb, hW⟩
        change wpList _ _ _ _ _ _
        simp only [Act.put, List.setIfInBounds_toArray, List.set_cons_zero, List.set_cons_succ, List.drop_succ_cons, List.drop_zero]
        have HO := Lib.hid (own_below HQ.out.2 hG)
        have HN := Lib.hid (newer_trans HQ.out.1 hG)
        have HWN := Lib.hid (World.news_of_block hW)
        clear hG hR hW r0 r1 r2 HQ
        go_wp2_with (at_builtin; go_loud ((refine wpList_append_lies _ rfl (.tmp 11) (.tmp 28) 78 rfl w.heap.size 101 i8 (.agg #[vi 0, vi 0, vi 0]) 3 24 Try.underlying78 HI8.out.1 HI8.out.2.1 HI8.out.2.2.1 HI8.out.2.2.2 rfl (by omega) _ k _ rfl HO.out ⟨nb, 0, none⟩ 1 1 (rlL y) rfl rfl HWN.out (by simp [Value.oneCell']) (by omega) (by unfold maxLen; omega) (by omega) HN.out.size wz.heap.size rfl ?_); intro gg cp2 w2 hown2 hgrow2 hat2 hlt3; rw [← take_flat rlL _ k y HY.out] at hown2; have HE := Lib.hid (And.intro hown2 (And.intro hgrow2 (own_ge HO.out))); clear hown2 hgrow2 hat2 hlt3))
        refine ⟨⟨k + 1, some ⟨gg, 0, none⟩, cp2, rfl, by omega, rfl, ?_, HE.out.1⟩, ?_⟩
        · exact below_grown (grown_trans' (grown_of_newer HN.out _) HE.out.2.1) HE.out.2.2 (Nat.le_refl _)
        · simp [intOf]
          omega
    · obtain rfl : k = tl.length := by omega
      have hown := HQ.out.2
      rw [List.take_of_length_le (Nat.le_refl _)] at hown
      have HE := Lib.hid (row_of_own (enc := rlL) (size := 3) (by omega) (fun _ => rfl) hown)
      clear hown
      go_wp2_with fail
      go_ret
      exact ⟨B, d, rfl, HE.out, HQ.out.1⟩
set_option maxRecDepth 100000 in
set_option maxHeartbeats 1000000 in
theorem truthAt_any (tl : List Rl) (A : Option Addr) (c tb i : Nat) (b : Bd) (y : Rl) (w : World) (ht : Whole w tb 78 #[.slice A tl.length c]) (hr : Row rlL 3 w w.heap.size A tl) (hy : tl[i]? = some y) : Calls Try.prog 76 #[vi i, bdV b, .pointer (some ⟨tb, 0, none⟩)] w fun e w' => e = .returned (rlV y) ∧ newer w w' := by
  have hlt := (List.getElem?_eq_some_iff.1 hy).1
  have hki : (i : Int) < tl.length := by omega
  have e0 : newer w ((w.alloc (.cells (bdC b) 104)).alloc (.cells #[vi 0, vi 0, vi 0] 101)) := newer_trans (newer_allocH w (.cells (bdC b) 104)) (newer_allocH (w.alloc (.cells (bdC b) 104)) (.cells #[vi 0, vi 0, vi 0] 101))
  have a0 := Whole.made (w.alloc (.cells (bdC b) 104)) 101 #[vi 0, vi 0, vi 0]
  simp only [World.size_alloc] at a0
  obtain ⟨bt, ot, rfl, _, r0, r1, r2⟩ := row3 (hr.below e0) hy
  have c0 := (ht.below e0 ht.lt).at 0 (v := .slice (some ⟨bt, ot, none⟩) tl.length c) rfl
  have z0 := a0.at 0 (v := vi 0) rfl
  have z1 := a0.at 1 (v := vi 0) rfl
  have z2 := a0.at 2 (v := vi 0) rfl
  have f0 := a0.free 0
  have f1 := a0.free 1
  have f2 := a0.free 2
  have HZ : Hid (newer w ((w.alloc (.cells (bdC b) 104)).alloc (.cells (rlC y) 101)) ∧ Whole ((w.alloc (.cells (bdC b) 104)).alloc (.cells (rlC y) 101)) (w.heap.size + 1) 101 (rlC y)) := Lib.hid ⟨newer_trans (newer_allocH w (.cells (bdC b) 104)) (newer_allocH (w.alloc (.cells (bdC b) 104)) (.cells (rlC y) 101)), by have h := Whole.made (w.alloc (.cells (bdC b) 104)) 101 (rlC y); rw [World.size_alloc] at h; exact h⟩
  clear e0 a0 hr hy ht hlt
  go_enter Try.func76, Try.ntmps76
  go_wp2_with fail
  have y0 := HZ.out.2.at 0 (v := vi y.fr) rfl
  have y1 := HZ.out.2.at 1 (v := vi y.co) rfl
  have y2 := HZ.out.2.at 2 (v := vi y.wa) rfl
  exact bodyPost_ret (v := .agg #[vi y.fr, vi y.co, vi y.wa]) (by simp [results, Try.results76, go_sem, y0, y1, y2]) rfl ⟨rfl, HZ.out.1⟩
/-- Do the numbers of a truth lie in the ranges of the beds? -/
def fitsA (bs : List Bd) (tl : List Rl) : Bool := decide (tl.length = bs.length) && goodB bs.length (fun i => fitB (bs.getD i zeroBd) (tl.getD i ⟨0, 0, 0⟩))
theorem fit_rlB {b : Bd} {x : Rl} (hb : bdB b = true) (h : fitB b x = true) : rlB x = true := by
  obtain ⟨_, _, h3, h4, h5⟩ := bdB_parts hb
  simp only [fitB, inB, Bool.and_eq_true, decide_eq_true_eq] at h
  simp only [rlB, inB, Bool.and_eq_true, decide_eq_true_eq]
  omega
theorem fitsA_iff {bs : List Bd} {tl : List Rl} : fitsA bs tl = true ↔ tl.length = bs.length ∧ ∀ i, i < bs.length → fitB (bs.getD i zeroBd) (tl.getD i ⟨0, 0, 0⟩) = true := by
  unfold fitsA
  rw [Bool.and_eq_true, decide_eq_true_eq, goodB_iff]
/-- The factor of a surface in a truth, and the error. -/
def facO (s : Sd) (frm : Int) (l : List Int) (tl : List Rl) : Int × Int := if checkUN s frm l = 0 then (if fitsA (bedsU s frm l) tl then (if dK (bedsU s frm l) (bedsU s frm l).length < 1 then (0, 7) else (factorN (hK (bedsU s frm l) (fun i => tl.getD i ⟨0, 0, 0⟩) (bedsU s frm l).length) (dK (bedsU s frm l) (bedsU s frm l).length), 0)) else (0, 9)) else (0, checkUN s frm l)
set_option maxRecDepth 100000 in
set_option maxHeartbeats 2000000 in
theorem factorP_any (s : Sm) (u : Su) (tl : List Rl) (TA : Option Addr) (tc : Nat) (w : World) (hok : SmOk s w) (few : SmFew s) (hu : SuOk u w) (hul : u.beds.length ≤ 1000) (htl : tl.length ≤ 1000) (htr : Row rlL 3 w w.heap.size TA tl) : Calls Try.prog 42 #[smV s, suV u, .slice TA tl.length tc] w fun e w' => e = .returned (.tuple #[vi (facO s.sd u.frm u.beds tl).1, vi (facO s.sd u.frm u.beds tl).2]) ∧ newer w w' := by
  have hnw : newer w (((w.alloc (.cells (smC s) 37)).alloc (.cells (suC u) 39)).alloc (.cells #[.slice TA tl.length tc] 78)) := newer_trans (newer_trans (newer_allocH _ _) (newer_allocH _ _)) (newer_allocH _ _)
  have e3 := newer_allocH ((w.alloc (.cells (smC s) 37)).alloc (.cells (suC u) 39)) (.cells #[.slice TA tl.length tc] 78)
  have hxb0 := (Whole.made w 37 (smC s)).alloc (.cells (suC u) 39)
  have hub0 := Whole.made (w.alloc (.cells (smC s) 37)) 39 (suC u)
  have htb := Whole.made ((w.alloc (.cells (smC s) 37)).alloc (.cells (suC u) 39)) 78 #[.slice TA tl.length tc]
  rw [World.size_alloc] at hub0
  rw [World.size_alloc, World.size_alloc] at htb
  have hxb := hxb0.below e3 hxb0.lt
  have hub := hub0.below e3 hub0.lt
  have H0 := Lib.hid (And.intro hnw (And.intro hxb (And.intro hub htb)))
  have HCU := Lib.hid (checkU_any s u _ (hok.next hnw) few (hu.next hnw) hul)
  have x0 := hxb.at 0 (v := .slice s.a s.cs.length s.c) rfl
  have x1 := hxb.at 1 (v := vi s.least) rfl
  have u0 := hub.at 0 (v := vi u.frm) rfl
  have u1 := hub.at 1 (v := .slice u.a u.beds.length u.c) rfl
  have HOK := Lib.hid (And.intro hok (And.intro hu htr))
  have HZ : Hid (checkUN s.sd u.frm u.beds = 0 → SdOk s.sd ∧ surfB s.sd u.frm u.beds = true) := Lib.hid checkU_zero
  obtain ⟨R, hR⟩ : ∃ R, R = facO s.sd u.frm u.beds tl := ⟨_, rfl⟩
  rw [← hR]
  unfold facO at hR
  obtain ⟨a, ha⟩ : ∃ a, a = checkUN s.sd u.frm u.beds := ⟨_, rfl⟩
  rw [← ha] at HCU HZ hR
  clear ha hok few hu hul hnw hxb hub hxb0 hub0 htb e3 htr
  by_cases hz : a = 0
  · subst hz
    obtain ⟨hs, hsf⟩ := HZ.out rfl
    obtain ⟨p1, p2, p3⟩ := surfB_parts hs hsf
    rw [if_pos rfl] at hR
    obtain ⟨k0, hk0⟩ : ∃ k0, k0 = u.frm.toNat := ⟨_, rfl⟩
    obtain ⟨l, hl⟩ : ∃ l, l = u.beds.map Int.toNat := ⟨_, rfl⟩
    rw [← hk0] at p1 p3
    rw [← hl] at p2 p3
    rw [sd_len] at p3
    have HBE : Hid (∀ W, newer w W → Calls Try.prog 58 #[smV s, suV u] W fun e w' => ∃ A c, e = .returned (.slice A l.length c) ∧ w'.ownsRow W.heap.size 104 8 (.slice A l.length c) l.length ((bedsL s.sd.cols k0 l).flatMap bdL) ∧ newer W w') := Lib.hid (fun W hW => bedsU_any s u k0 l W (HOK.out.1.next hW) hs (HOK.out.2.1.next hW) p1 p2 p3)
    have hll : l.length ≤ 12 := by have h1 := p3.2.1; have h2 := hs.cols; rw [sd_len] at h2; omega
    have hbo := bedsL_ok hs p3.2.2 p3.2.1
    have eb : bedsU s.sd u.frm u.beds = bedsL s.sd.cols k0 l := by unfold bedsU; rw [← hk0, ← hl]
    rw [eb] at hR
    have hbl := bedsL_len s.sd.cols l k0
    obtain ⟨bs, hbs⟩ : ∃ bs, bs = bedsL s.sd.cols k0 l := ⟨_, rfl⟩
    rw [← hbs] at HBE hbo hbl hR
    rw [← hbl] at HBE
    have hbn : bs.length ≤ 12 := by omega
    have HBO := Lib.hid hbo
    have HRR := Lib.hid hR
    clear hR hs hsf p1 p2 p3 hk0 hl hll eb hbl hbs hbo HZ
    go_enter Try.func42, Try.ntmps42
    go_wp2_with fail
    refine (HCU.out).mono ?_
    rintro e w1 ⟨rfl, hb⟩
    have H1 := Lib.hid (And.intro (newer_trans H0.out.1 hb) (And.intro (H0.out.2.1.below hb H0.out.2.1.lt) (And.intro (H0.out.2.2.1.below hb H0.out.2.2.1.lt) (H0.out.2.2.2.below hb H0.out.2.2.2.lt))))
    clear H0 hb HCU x0 x1 u0 u1
    have x0 := H1.out.2.1.at 0 (v := .slice s.a s.cs.length s.c) rfl
    have x1 := H1.out.2.1.at 1 (v := vi s.least) rfl
    have u0 := H1.out.2.2.1.at 0 (v := vi u.frm) rfl
    have u1 := H1.out.2.2.1.at 1 (v := .slice u.a u.beds.length u.c) rfl
    go_wp2_with fail
    refine (HBE.out _ H1.out.1).mono ?_
    rintro e w2 ⟨A, c, rfl, ho, hb⟩
    have hrow := row_of_own (enc := bdL) (size := 8) (by omega) (fun _ => rfl) ho
    have H2 := Lib.hid (And.intro (newer_trans H1.out.1 hb) (And.intro (H1.out.2.2.2.below hb H1.out.2.2.2.lt) hrow))
    have HX2 := Lib.hid (And.intro (newer_trans H1.out.1 hb) (H1.out.2.2.2.below hb H1.out.2.2.2.lt))
    clear H1 hb HBE x0 x1 u0 u1 ho hrow
    have t0 := H2.out.2.1.at 0 (v := .slice TA tl.length tc) rfl
    by_cases hlen : tl.length = bs.length
    case neg =>
      have hb0 : ((tl.length : Int) == (bs.length : Int)) = false := by simp; omega
      have hb1 : ((tl.length : Int) != (bs.length : Int)) = true := by simp; omega
      have hb2 : (tl.length == bs.length) = false := by simpa using hlen
      have hb3 : (tl.length != bs.length) = true := by simpa using hlen
      have HE : Hid (R = (0, 9)) := Lib.hid (by
        rw [HRR.out, if_neg]
        intro h
        exact hlen (fitsA_iff.1 h).1)
      clear hlen
      go_wp2_with fail
      exact bodyPost_ret (v := .tuple #[vi 0, vi 9]) (by simp [results, Try.results42, go_sem]) rfl ⟨by rw [HE.out], H2.out.1⟩
    case pos =>
    have HLN := Lib.hid hlen
    have HFL : Hid (¬ (∀ i, i < bs.length → fitB (bs.getD i zeroBd) (tl.getD i ⟨0, 0, 0⟩) = true) → R = (0, 9)) := Lib.hid (fun h => by
      rw [HRR.out, if_neg]
      intro h2
      exact h (fitsA_iff.1 h2).2)
    rw [hlen] at t0
    have hq0 : ((bs.length : Int) == (bs.length : Int)) = true := by simp
    have hq1 : ((bs.length : Int) != (bs.length : Int)) = false := by simp
    clear hlen
    go_wp2_with fail
    go_loopw [30] (fun s30 wr => ∃ k : Nat, s30 = vi k ∧ k ≤ bs.length ∧ (∀ i, i < k → fitB (bs.getD i zeroBd) (tl.getD i ⟨0, 0, 0⟩) = true) ∧ newer w wr ∧ Whole wr (w.heap.size + 1 + 1) 78 #[.slice TA tl.length tc] ∧ Row bdL 8 wr wr.heap.size A bs) (fun s30 _ => bs.length - (intOf s30).toNat)
    case atStart => exact ⟨0, rfl, Nat.zero_le _, fun i h => absurd h (by omega), H2.out.1, H2.out.2.1, H2.out.2.2⟩
    case round =>
      obtain ⟨k, rfl, hk, hfit, hn, htb, hrow⟩ := hrel
      clear H2 HX2 t0 hq0 hq1
      have HFI := Lib.hid hfit
      have HJ := Lib.hid (And.intro hn (And.intro htb hrow))
      clear hfit hn htb hrow
      by_cases hlt : k < bs.length
      · obtain ⟨bd, hbd⟩ := get_of_lt hlt
        obtain ⟨y, hy⟩ := get_of_lt (l := tl) (k := k) (by rw [HLN.out]; exact hlt)
        obtain ⟨b4, o4, rfl, _, d0, d1, d2, d3, d4, d5, d6, d7⟩ := row8 HJ.out.2.2 hbd
        have hge : bs.getD k zeroBd = bd := by simp [List.getD, hbd]
        have hgy : tl.getD k ⟨0, 0, 0⟩ = y := by simp [List.getD, hy]
        have HFK : Hid (fitB (bs.getD k zeroBd) (tl.getD k ⟨0, 0, 0⟩) = (inB y.fr bd.fr.lo bd.fr.hi && inB y.co bd.co.lo bd.co.hi && inB y.wa bd.wa.lo bd.wa.hi)) := Lib.hid (by rw [hge, hgy]; rfl)
        obtain ⟨bt, ot, eT, _, r0, r1, r2⟩ := row3 (HOK.out.2.2.below HJ.out.1) hy
        have hkb : (k : Int) < bs.length := by omega
        have hkt : (k : Int) < tl.length := by rw [HLN.out]; exact hkb
        have HET := Lib.hid eT
        have HRW := Lib.hid (And.intro r0 (And.intro r1 r2))
        have e5 := newer_allocH wr (.cells (bdC bd) 104)
        have HE4 := Lib.hid (And.intro (newer_trans HJ.out.1 e5) (And.intro (HJ.out.2.1.below e5 HJ.out.2.1.lt) (And.intro ((HJ.out.2.2.below e5).more e5.size) (And.intro (Whole.made wr 104 (bdC bd)) (And.intro (keep_cell r0 e5) (And.intro (keep_cell r1 e5) (keep_cell r2 e5)))))))
        clear hbd hy hge hgy e5 r0 r1 r2 eT HJ HRW
        go_upto_region 10 with fail
        refine genQ (fun X => newer w X ∧ Whole X (w.heap.size + 1 + 1) 78 #[.slice TA tl.length tc] ∧ Row bdL 8 X X.heap.size (some ⟨b4, o4, none⟩) bs ∧ Whole X wr.heap.size 104 (bdC bd) ∧ X.cell? ⟨bt, ot + k * 3, none⟩ = some (vi y.fr) ∧ X.cell? ⟨bt, ot + k * 3 + 1, none⟩ = some (vi y.co) ∧ X.cell? ⟨bt, ot + k * 3 + 2, none⟩ = some (vi y.wa)) HE4.out ?_
        clear HE4 d0 d1 d2 d3 d4 d5 d6 d7
        obtain ⟨bb, hbb⟩ : ∃ bb, bb = wr.heap.size := ⟨_, rfl⟩
        rw [← hbb]
        rintro w5 ⟨p1, p2, p3, p4, r0, r1, r2⟩
        have z0 := p4.at 0 (v := vi bd.drive) rfl
        have z1 := p4.at 1 (v := vi bd.normal) rfl
        have z2 := p4.at 2 (v := vi bd.fr.lo) rfl
        have z3 := p4.at 3 (v := vi bd.fr.hi) rfl
        have z4 := p4.at 4 (v := vi bd.co.lo) rfl
        have z5 := p4.at 5 (v := vi bd.co.hi) rfl
        have z6 := p4.at 6 (v := vi bd.wa.lo) rfl
        have z7 := p4.at 7 (v := vi bd.wa.hi) rfl
        have t0 := p2.at 0 (v := .slice TA tl.length tc) rfl
        rw [HET.out] at t0
        have HE5 := Lib.hid (And.intro p1 (And.intro p2 p3))
        have HH1 := Lib.hid (fun W => has_any bd.fr y.fr W)
        have HH2 := Lib.hid (fun W => has_any bd.co y.co W)
        have HH3 := Lib.hid (fun W => has_any bd.wa y.wa W)
        obtain ⟨q1, hq1⟩ : ∃ q, q = inB y.fr bd.fr.lo bd.fr.hi := ⟨_, rfl⟩
        obtain ⟨q2, hq2⟩ : ∃ q, q = inB y.co bd.co.lo bd.co.hi := ⟨_, rfl⟩
        obtain ⟨q3, hq3⟩ : ∃ q, q = inB y.wa bd.wa.lo bd.wa.hi := ⟨_, rfl⟩
        rw [← hq1, ← hq2, ← hq3] at HFK
        rw [← hq1] at HH1
        rw [← hq2] at HH2
        rw [← hq3] at HH3
        clear p1 p2 p3 p4 hbb hq1 hq2 hq3
        cases q1 with
        | false =>
          refine wp_words (by kernel_rfl) (region_told_u 30 (by kernel_rfl) (by kernel_rfl) [false, false, false, false, false, false, false, false, false, false, true, true, true, true, true, true, true, true, true, false, false, true, true, true, true, true, true, true, true, true] (fun W => Below w5.heap.size w5 W) newer [vIs (.pointer (some ⟨bb, 2, none⟩)), vIs (rgV bd.fr), vIs (.slice (some ⟨bt, ot, none⟩) tl.length tc), vIs (vi k), vIs (.pointer (some ⟨bt, ot + k * 3, none⟩)), vIs (.pointer (some ⟨bt, ot + k * 3, none⟩)), vIs (vi y.fr), vIs (.bool false), vIs (.bool true), vIs (.bool true), vIs (undef), vIs (undef), vIs (undef), vIs (undef), vIs (undef), vIs (undef), vIs (undef), vIs (undef), vIs (undef), vIs (.bool true), vIs (.bool true), vIs (undef), vIs (undef), vIs (undef), vIs (undef), vIs (undef), vIs (undef), vIs (undef), vIs (undef), vIs (undef)] ⟨rfl, rfl, rfl, rfl, rfl, rfl, rfl, rfl, rfl, rfl, (fun v W h => by obtain rfl : v = _ := h; simp), (fun v W h => by obtain rfl : v = _ := h; simp), (fun v W h => by obtain rfl : v = _ := h; simp), (fun v W h => by obtain rfl : v = _ := h; simp), (fun v W h => by obtain rfl : v = _ := h; simp), (fun v W h => by obtain rfl : v = _ := h; simp), (fun v W h => by obtain rfl : v = _ := h; simp), (fun v W h => by obtain rfl : v = _ := h; simp), (fun v W h => by obtain rfl : v = _ := h; simp), rfl, rfl, (fun v W h => by obtain rfl : v = _ := h; simp), (fun v W h => by obtain rfl : v = _ := h; simp), (fun v W h => by obtain rfl : v = _ := h; simp), (fun v W h => by obtain rfl : v = _ := h; simp), (fun v W h => by obtain rfl : v = _ := h; simp), (fun v W h => by obtain rfl : v = _ := h; simp), (fun v W h => by obtain rfl : v = _ := h; simp), (fun v W h => by obtain rfl : v = _ := h; simp), (fun v W h => by obtain rfl : v = _ := h; simp), trivial⟩ ⟨(fun h => Bool.noConfusion (show false = true from h)), (fun h => Bool.noConfusion (show false = true from h)), (fun h => Bool.noConfusion (show false = true from h)), (fun h => Bool.noConfusion (show false = true from h)), (fun h => Bool.noConfusion (show false = true from h)), (fun h => Bool.noConfusion (show false = true from h)), (fun h => Bool.noConfusion (show false = true from h)), (fun h => Bool.noConfusion (show false = true from h)), (fun h => Bool.noConfusion (show false = true from h)), (fun h => Bool.noConfusion (show false = true from h)), (fun _ _ => rfl), (fun _ _ => rfl), (fun _ _ => rfl), (fun _ _ => rfl), (fun _ _ => rfl), (fun _ _ => rfl), (fun _ _ => rfl), (fun _ _ => rfl), (fun _ _ => rfl), (fun h => Bool.noConfusion (show false = true from h)), (fun h => Bool.noConfusion (show false = true from h)), (fun _ _ => rfl), (fun _ _ => rfl), (fun _ _ => rfl), (fun _ _ => rfl), (fun _ _ => rfl), (fun _ _ => rfl), (fun _ _ => rfl), (fun _ _ => rfl), (fun _ _ => rfl), trivial⟩ (fun h k => newer_trans h k) (pickD_stable _ ⟨vIs_st, vIs_st, vIs_st, vIs_st, vIs_st, vIs_st, vIs_st, vIs_st, vIs_st, vIs_st, vIs_st, vIs_st, vIs_st, vIs_st, vIs_st, vIs_st, vIs_st, vIs_st, vIs_st, vIs_st, vIs_st, vIs_st, vIs_st, vIs_st, vIs_st, vIs_st, vIs_st, vIs_st, vIs_st, vIs_st, trivial⟩) (Below.refl _ w5).drew (Below.refl _ _) ?_ ?_)
          · refine ⟨.inr ?_, .inr ?_, .inr ?_, .inr ?_, .inr ?_, .inr ?_, .inr ?_, .inr ?_, .inr ?_, .inr ?_, .inl rfl, .inl rfl, .inl rfl, .inl rfl, .inl rfl, .inl rfl, .inl rfl, .inl rfl, .inl rfl, .inr ?_, .inr ?_, .inl rfl, .inl rfl, .inl rfl, .inl rfl, .inl rfl, .inl rfl, .inl rfl, .inl rfl, .inl rfl, trivial⟩
            · intro a W hG hR hO hp
              have h11 := hO.slot 11 (by kernel_rfl)
              refine wp_yields (v := .pointer (some ⟨bb, 2, none⟩)) ?_ ⟨_, rfl, rfl, Below.refl _ _, hG⟩
              simp [slotOf] at h11
              simp [execOp, go_sem, h11]
            · intro a W hG hR hO hp
              have h35 : slotOf a 35 = .pointer (some ⟨bb, 2, none⟩) := hp.1
              have c0 := keep_cell z2 hG
              have c1 := keep_cell z3 hG
              refine wp_yields (v := rgV bd.fr) ?_ ⟨_, rfl, rfl, Below.refl _ _, hG⟩
              simp [slotOf] at h35
              simp [execOp, go_sem, h35, c0, c1]
            · intro a W hG hR hO hp
              have h5 := hO.slot 5 (by kernel_rfl)
              have c0 := keep_cell t0 hG
              refine wp_yields (v := .slice (some ⟨bt, ot, none⟩) tl.length tc) ?_ ⟨_, rfl, rfl, Below.refl _ _, hG⟩
              simp [slotOf] at h5
              simp [execOp, go_sem, h5, c0]
            · intro a W hG hR hO hp
              have h10 := hO.slot 10 (by kernel_rfl)
              refine wp_yields (v := vi k) ?_ ⟨_, rfl, rfl, Below.refl _ _, hG⟩
              simp [slotOf] at h10
              simp [execOp, go_sem, h10]
            · intro a W hG hR hO hp
              have h37 : slotOf a 37 = .slice (some ⟨bt, ot, none⟩) tl.length tc := hp.1
              have h38 : slotOf a 38 = vi k := hp.2.1
              refine wp_yields (v := .pointer (some ⟨bt, ot + k * 3, none⟩)) ?_ ⟨_, rfl, rfl, Below.refl _ _, hG⟩
              simp [slotOf] at h37 h38
              simp [execOp, go_sem, h37, h38, hkt]
            · intro a W hG hR hO hp
              have h39 : slotOf a 39 = .pointer (some ⟨bt, ot + k * 3, none⟩) := hp.1
              refine wp_yields (v := .pointer (some ⟨bt, ot + k * 3, none⟩)) ?_ ⟨_, rfl, rfl, Below.refl _ _, hG⟩
              simp [slotOf] at h39
              simp [execOp, go_sem, h39]
            · intro a W hG hR hO hp
              have h40 : slotOf a 40 = .pointer (some ⟨bt, ot + k * 3, none⟩) := hp.1
              have c0 := keep_cell r0 hG
              refine wp_yields (v := vi y.fr) ?_ ⟨_, rfl, rfl, Below.refl _ _, hG⟩
              simp [slotOf] at h40
              simp [execOp, go_sem, h40, c0]
            · intro a W hG hR hO hp
              have h36 : slotOf a 36 = rgV bd.fr := hp.1
              have h41 : slotOf a 41 = vi y.fr := hp.2.1
              refine wp_enters (f := 75) (args := #[rgV bd.fr, vi y.fr]) ?_ ((HH1.out W).mono ?_)
              · simp [slotOf] at h36 h41
                simp [go_sem, h36, h41]
              · rintro e w' ⟨rfl, hb⟩
                exact ⟨_, rfl, _, rfl, rfl, hb, below_next hG hb⟩
            · intro a W hG hR hO hp
              have h42 : slotOf a 42 = .bool false := hp.1
              refine wp_yields (v := .bool true) ?_ ⟨_, rfl, rfl, Below.refl _ _, hG⟩
              simp [slotOf] at h42
              simp [execOp, go_sem, h42]
            · intro a W hG hR hO hp
              have h43 : slotOf a 43 = .bool true := hp.1
              refine wp_yields (v := .bool true) ?_ ⟨_, rfl, rfl, Below.refl _ _, hG⟩
              simp [slotOf] at h43
              simp [execOp, go_sem, h43]
            · intro a W hG hR hO hp
              have h44 : slotOf a 44 = .bool true := hp.1
              have h53 : slotOf a 53 = undef := hp.2.1
              refine wp_yields (v := .bool true) ?_ ⟨_, rfl, rfl, Below.refl _ _, hG⟩
              simp [slotOf] at h44 h53
              simp [execOp, go_sem, h44, h53]
            · intro a W hG hR hO hp
              have h54 : slotOf a 54 = .bool true := hp.1
              refine wp_yields (v := .bool true) ?_ ⟨_, rfl, rfl, Below.refl _ _, hG⟩
              simp [slotOf] at h54
              simp [execOp, go_sem, h54]
          · intro wz hG hR
            rintro _ rfl _ rfl _ rfl _ rfl _ rfl _ rfl _ rfl _ rfl _ rfl _ rfl _ rfl _ rfl _ rfl _ rfl _ rfl _ rfl _ rfl _ rfl _ rfl _ rfl _ rfl _ rfl _ rfl _ rfl _ rfl _ rfl _ rfl _ rfl _ rfl _ rfl
            change wpList _ _ _ _ _ _
            simp only [Act.put, List.setIfInBounds_toArray, List.set_cons_zero, List.set_cons_succ, List.drop_succ_cons, List.drop_zero]
            have HN := Lib.hid (newer_trans HE5.out.1 hG)
            have HFF := Lib.hid (HFL.out (fun h => by have h1 := h k hlt; rw [HFK.out] at h1; cases h1))
            clear hG hR HE5 t0 r0 r1 r2 z0 z1 z2 z3 z4 z5 z6 z7
            go_wp2_with fail
            exact bodyPost_ret (v := .tuple #[vi 0, vi 9]) (by simp [results, Try.results42, go_sem]) rfl ⟨by rw [HFF.out], HN.out⟩
        | true =>
        cases q2 with
        | false =>
          refine wp_words (by kernel_rfl) (region_told_u 30 (by kernel_rfl) (by kernel_rfl) [false, false, false, false, false, false, false, false, false, false, false, false, false, false, false, false, false, false, false, false, false, true, true, true, true, true, true, true, true, true] (fun W => Below w5.heap.size w5 W) newer [vIs (.pointer (some ⟨bb, 2, none⟩)), vIs (rgV bd.fr), vIs (.slice (some ⟨bt, ot, none⟩) tl.length tc), vIs (vi k), vIs (.pointer (some ⟨bt, ot + k * 3, none⟩)), vIs (.pointer (some ⟨bt, ot + k * 3, none⟩)), vIs (vi y.fr), vIs (.bool true), vIs (.bool false), vIs (.bool false), vIs (.pointer (some ⟨bb, 4, none⟩)), vIs (rgV bd.co), vIs (.slice (some ⟨bt, ot, none⟩) tl.length tc), vIs (vi k), vIs (.pointer (some ⟨bt, ot + k * 3, none⟩)), vIs (.pointer (some ⟨bt, ot + k * 3 + 1, none⟩)), vIs (vi y.co), vIs (.bool false), vIs (.bool true), vIs (.bool true), vIs (.bool true), vIs (undef), vIs (undef), vIs (undef), vIs (undef), vIs (undef), vIs (undef), vIs (undef), vIs (undef), vIs (undef)] ⟨rfl, rfl, rfl, rfl, rfl, rfl, rfl, rfl, rfl, rfl, (fun v W h => by obtain rfl : v = _ := h; rfl), (fun v W h => by obtain rfl : v = _ := h; rfl), (fun v W h => by obtain rfl : v = _ := h; rfl), (fun v W h => by obtain rfl : v = _ := h; rfl), (fun v W h => by obtain rfl : v = _ := h; rfl), (fun v W h => by obtain rfl : v = _ := h; rfl), (fun v W h => by obtain rfl : v = _ := h; rfl), (fun v W h => by obtain rfl : v = _ := h; rfl), (fun v W h => by obtain rfl : v = _ := h; rfl), rfl, rfl, (fun v W h => by obtain rfl : v = _ := h; simp), (fun v W h => by obtain rfl : v = _ := h; simp), (fun v W h => by obtain rfl : v = _ := h; simp), (fun v W h => by obtain rfl : v = _ := h; simp), (fun v W h => by obtain rfl : v = _ := h; simp), (fun v W h => by obtain rfl : v = _ := h; simp), (fun v W h => by obtain rfl : v = _ := h; simp), (fun v W h => by obtain rfl : v = _ := h; simp), (fun v W h => by obtain rfl : v = _ := h; simp), trivial⟩ ⟨(fun h => Bool.noConfusion (show false = true from h)), (fun h => Bool.noConfusion (show false = true from h)), (fun h => Bool.noConfusion (show false = true from h)), (fun h => Bool.noConfusion (show false = true from h)), (fun h => Bool.noConfusion (show false = true from h)), (fun h => Bool.noConfusion (show false = true from h)), (fun h => Bool.noConfusion (show false = true from h)), (fun h => Bool.noConfusion (show false = true from h)), (fun h => Bool.noConfusion (show false = true from h)), (fun h => Bool.noConfusion (show false = true from h)), (fun h => Bool.noConfusion (show false = true from h)), (fun h => Bool.noConfusion (show false = true from h)), (fun h => Bool.noConfusion (show false = true from h)), (fun h => Bool.noConfusion (show false = true from h)), (fun h => Bool.noConfusion (show false = true from h)), (fun h => Bool.noConfusion (show false = true from h)), (fun h => Bool.noConfusion (show false = true from h)), (fun h => Bool.noConfusion (show false = true from h)), (fun h => Bool.noConfusion (show false = true from h)), (fun h => Bool.noConfusion (show false = true from h)), (fun h => Bool.noConfusion (show false = true from h)), (fun _ _ => rfl), (fun _ _ => rfl), (fun _ _ => rfl), (fun _ _ => rfl), (fun _ _ => rfl), (fun _ _ => rfl), (fun _ _ => rfl), (fun _ _ => rfl), (fun _ _ => rfl), trivial⟩ (fun h k => newer_trans h k) (pickD_stable _ ⟨vIs_st, vIs_st, vIs_st, vIs_st, vIs_st, vIs_st, vIs_st, vIs_st, vIs_st, vIs_st, vIs_st, vIs_st, vIs_st, vIs_st, vIs_st, vIs_st, vIs_st, vIs_st, vIs_st, vIs_st, vIs_st, vIs_st, vIs_st, vIs_st, vIs_st, vIs_st, vIs_st, vIs_st, vIs_st, vIs_st, trivial⟩) (Below.refl _ w5).drew (Below.refl _ _) ?_ ?_)
          · refine ⟨.inr ?_, .inr ?_, .inr ?_, .inr ?_, .inr ?_, .inr ?_, .inr ?_, .inr ?_, .inr ?_, .inr ?_, .inr ?_, .inr ?_, .inr ?_, .inr ?_, .inr ?_, .inr ?_, .inr ?_, .inr ?_, .inr ?_, .inr ?_, .inr ?_, .inl rfl, .inl rfl, .inl rfl, .inl rfl, .inl rfl, .inl rfl, .inl rfl, .inl rfl, .inl rfl, trivial⟩
            · intro a W hG hR hO hp
              have h11 := hO.slot 11 (by kernel_rfl)
              refine wp_yields (v := .pointer (some ⟨bb, 2, none⟩)) ?_ ⟨_, rfl, rfl, Below.refl _ _, hG⟩
              simp [slotOf] at h11
              simp [execOp, go_sem, h11]
            · intro a W hG hR hO hp
              have h35 : slotOf a 35 = .pointer (some ⟨bb, 2, none⟩) := hp.1
              have c0 := keep_cell z2 hG
              have c1 := keep_cell z3 hG
              refine wp_yields (v := rgV bd.fr) ?_ ⟨_, rfl, rfl, Below.refl _ _, hG⟩
              simp [slotOf] at h35
              simp [execOp, go_sem, h35, c0, c1]
            · intro a W hG hR hO hp
              have h5 := hO.slot 5 (by kernel_rfl)
              have c0 := keep_cell t0 hG
              refine wp_yields (v := .slice (some ⟨bt, ot, none⟩) tl.length tc) ?_ ⟨_, rfl, rfl, Below.refl _ _, hG⟩
              simp [slotOf] at h5
              simp [execOp, go_sem, h5, c0]
            · intro a W hG hR hO hp
              have h10 := hO.slot 10 (by kernel_rfl)
              refine wp_yields (v := vi k) ?_ ⟨_, rfl, rfl, Below.refl _ _, hG⟩
              simp [slotOf] at h10
              simp [execOp, go_sem, h10]
            · intro a W hG hR hO hp
              have h37 : slotOf a 37 = .slice (some ⟨bt, ot, none⟩) tl.length tc := hp.1
              have h38 : slotOf a 38 = vi k := hp.2.1
              refine wp_yields (v := .pointer (some ⟨bt, ot + k * 3, none⟩)) ?_ ⟨_, rfl, rfl, Below.refl _ _, hG⟩
              simp [slotOf] at h37 h38
              simp [execOp, go_sem, h37, h38, hkt]
            · intro a W hG hR hO hp
              have h39 : slotOf a 39 = .pointer (some ⟨bt, ot + k * 3, none⟩) := hp.1
              refine wp_yields (v := .pointer (some ⟨bt, ot + k * 3, none⟩)) ?_ ⟨_, rfl, rfl, Below.refl _ _, hG⟩
              simp [slotOf] at h39
              simp [execOp, go_sem, h39]
            · intro a W hG hR hO hp
              have h40 : slotOf a 40 = .pointer (some ⟨bt, ot + k * 3, none⟩) := hp.1
              have c0 := keep_cell r0 hG
              refine wp_yields (v := vi y.fr) ?_ ⟨_, rfl, rfl, Below.refl _ _, hG⟩
              simp [slotOf] at h40
              simp [execOp, go_sem, h40, c0]
            · intro a W hG hR hO hp
              have h36 : slotOf a 36 = rgV bd.fr := hp.1
              have h41 : slotOf a 41 = vi y.fr := hp.2.1
              refine wp_enters (f := 75) (args := #[rgV bd.fr, vi y.fr]) ?_ ((HH1.out W).mono ?_)
              · simp [slotOf] at h36 h41
                simp [go_sem, h36, h41]
              · rintro e w' ⟨rfl, hb⟩
                exact ⟨_, rfl, _, rfl, rfl, hb, below_next hG hb⟩
            · intro a W hG hR hO hp
              have h42 : slotOf a 42 = .bool true := hp.1
              refine wp_yields (v := .bool false) ?_ ⟨_, rfl, rfl, Below.refl _ _, hG⟩
              simp [slotOf] at h42
              simp [execOp, go_sem, h42]
            · intro a W hG hR hO hp
              have h43 : slotOf a 43 = .bool false := hp.1
              refine wp_yields (v := .bool false) ?_ ⟨_, rfl, rfl, Below.refl _ _, hG⟩
              simp [slotOf] at h43
              simp [execOp, go_sem, h43]
            · intro a W hG hR hO hp
              have h11 := hO.slot 11 (by kernel_rfl)
              refine wp_yields (v := .pointer (some ⟨bb, 4, none⟩)) ?_ ⟨_, rfl, rfl, Below.refl _ _, hG⟩
              simp [slotOf] at h11
              simp [execOp, go_sem, h11]
            · intro a W hG hR hO hp
              have h45 : slotOf a 45 = .pointer (some ⟨bb, 4, none⟩) := hp.1
              have c0 := keep_cell z4 hG
              have c1 := keep_cell z5 hG
              refine wp_yields (v := rgV bd.co) ?_ ⟨_, rfl, rfl, Below.refl _ _, hG⟩
              simp [slotOf] at h45
              simp [execOp, go_sem, h45, c0, c1]
            · intro a W hG hR hO hp
              have h5 := hO.slot 5 (by kernel_rfl)
              have c0 := keep_cell t0 hG
              refine wp_yields (v := .slice (some ⟨bt, ot, none⟩) tl.length tc) ?_ ⟨_, rfl, rfl, Below.refl _ _, hG⟩
              simp [slotOf] at h5
              simp [execOp, go_sem, h5, c0]
            · intro a W hG hR hO hp
              have h10 := hO.slot 10 (by kernel_rfl)
              refine wp_yields (v := vi k) ?_ ⟨_, rfl, rfl, Below.refl _ _, hG⟩
              simp [slotOf] at h10
              simp [execOp, go_sem, h10]
            · intro a W hG hR hO hp
              have h47 : slotOf a 47 = .slice (some ⟨bt, ot, none⟩) tl.length tc := hp.1
              have h48 : slotOf a 48 = vi k := hp.2.1
              refine wp_yields (v := .pointer (some ⟨bt, ot + k * 3, none⟩)) ?_ ⟨_, rfl, rfl, Below.refl _ _, hG⟩
              simp [slotOf] at h47 h48
              simp [execOp, go_sem, h47, h48, hkt]
            · intro a W hG hR hO hp
              have h49 : slotOf a 49 = .pointer (some ⟨bt, ot + k * 3, none⟩) := hp.1
              refine wp_yields (v := .pointer (some ⟨bt, ot + k * 3 + 1, none⟩)) ?_ ⟨_, rfl, rfl, Below.refl _ _, hG⟩
              simp [slotOf] at h49
              simp [execOp, go_sem, h49]
            · intro a W hG hR hO hp
              have h50 : slotOf a 50 = .pointer (some ⟨bt, ot + k * 3 + 1, none⟩) := hp.1
              have c0 := keep_cell r1 hG
              refine wp_yields (v := vi y.co) ?_ ⟨_, rfl, rfl, Below.refl _ _, hG⟩
              simp [slotOf] at h50
              simp [execOp, go_sem, h50, c0]
            · intro a W hG hR hO hp
              have h46 : slotOf a 46 = rgV bd.co := hp.1
              have h51 : slotOf a 51 = vi y.co := hp.2.1
              refine wp_enters (f := 75) (args := #[rgV bd.co, vi y.co]) ?_ ((HH2.out W).mono ?_)
              · simp [slotOf] at h46 h51
                simp [go_sem, h46, h51]
              · rintro e w' ⟨rfl, hb⟩
                exact ⟨_, rfl, _, rfl, rfl, hb, below_next hG hb⟩
            · intro a W hG hR hO hp
              have h52 : slotOf a 52 = .bool false := hp.1
              refine wp_yields (v := .bool true) ?_ ⟨_, rfl, rfl, Below.refl _ _, hG⟩
              simp [slotOf] at h52
              simp [execOp, go_sem, h52]
            · intro a W hG hR hO hp
              have h44 : slotOf a 44 = .bool false := hp.1
              have h53 : slotOf a 53 = .bool true := hp.2.1
              refine wp_yields (v := .bool true) ?_ ⟨_, rfl, rfl, Below.refl _ _, hG⟩
              simp [slotOf] at h44 h53
              simp [execOp, go_sem, h44, h53]
            · intro a W hG hR hO hp
              have h54 : slotOf a 54 = .bool true := hp.1
              refine wp_yields (v := .bool true) ?_ ⟨_, rfl, rfl, Below.refl _ _, hG⟩
              simp [slotOf] at h54
              simp [execOp, go_sem, h54]
          · intro wz hG hR
            rintro _ rfl _ rfl _ rfl _ rfl _ rfl _ rfl _ rfl _ rfl _ rfl _ rfl _ rfl _ rfl _ rfl _ rfl _ rfl _ rfl _ rfl _ rfl _ rfl _ rfl _ rfl _ rfl _ rfl _ rfl _ rfl _ rfl _ rfl _ rfl _ rfl _ rfl
            change wpList _ _ _ _ _ _
            simp only [Act.put, List.setIfInBounds_toArray, List.set_cons_zero, List.set_cons_succ, List.drop_succ_cons, List.drop_zero]
            have HN := Lib.hid (newer_trans HE5.out.1 hG)
            have HFF := Lib.hid (HFL.out (fun h => by have h1 := h k hlt; rw [HFK.out] at h1; cases h1))
            clear hG hR HE5 t0 r0 r1 r2 z0 z1 z2 z3 z4 z5 z6 z7
            go_wp2_with fail
            exact bodyPost_ret (v := .tuple #[vi 0, vi 9]) (by simp [results, Try.results42, go_sem]) rfl ⟨by rw [HFF.out], HN.out⟩
        | true =>
        cases q3 with
        | false =>
          refine wp_words (by kernel_rfl) (region_told_u 30 (by kernel_rfl) (by kernel_rfl) [false, false, false, false, false, false, false, false, false, false, false, false, false, false, false, false, false, false, false, false, false, false, false, false, false, false, false, false, false, false] (fun W => Below w5.heap.size w5 W) newer [vIs (.pointer (some ⟨bb, 2, none⟩)), vIs (rgV bd.fr), vIs (.slice (some ⟨bt, ot, none⟩) tl.length tc), vIs (vi k), vIs (.pointer (some ⟨bt, ot + k * 3, none⟩)), vIs (.pointer (some ⟨bt, ot + k * 3, none⟩)), vIs (vi y.fr), vIs (.bool true), vIs (.bool false), vIs (.bool false), vIs (.pointer (some ⟨bb, 4, none⟩)), vIs (rgV bd.co), vIs (.slice (some ⟨bt, ot, none⟩) tl.length tc), vIs (vi k), vIs (.pointer (some ⟨bt, ot + k * 3, none⟩)), vIs (.pointer (some ⟨bt, ot + k * 3 + 1, none⟩)), vIs (vi y.co), vIs (.bool true), vIs (.bool false), vIs (.bool false), vIs (.bool false), vIs (.pointer (some ⟨bb, 6, none⟩)), vIs (rgV bd.wa), vIs (.slice (some ⟨bt, ot, none⟩) tl.length tc), vIs (vi k), vIs (.pointer (some ⟨bt, ot + k * 3, none⟩)), vIs (.pointer (some ⟨bt, ot + k * 3 + 2, none⟩)), vIs (vi y.wa), vIs (.bool false), vIs (.bool true)] ⟨rfl, rfl, rfl, rfl, rfl, rfl, rfl, rfl, rfl, rfl, (fun v W h => by obtain rfl : v = _ := h; rfl), (fun v W h => by obtain rfl : v = _ := h; rfl), (fun v W h => by obtain rfl : v = _ := h; rfl), (fun v W h => by obtain rfl : v = _ := h; rfl), (fun v W h => by obtain rfl : v = _ := h; rfl), (fun v W h => by obtain rfl : v = _ := h; rfl), (fun v W h => by obtain rfl : v = _ := h; rfl), (fun v W h => by obtain rfl : v = _ := h; rfl), (fun v W h => by obtain rfl : v = _ := h; rfl), rfl, rfl, (fun v W h => by obtain rfl : v = _ := h; rfl), (fun v W h => by obtain rfl : v = _ := h; rfl), (fun v W h => by obtain rfl : v = _ := h; rfl), (fun v W h => by obtain rfl : v = _ := h; rfl), (fun v W h => by obtain rfl : v = _ := h; rfl), (fun v W h => by obtain rfl : v = _ := h; rfl), (fun v W h => by obtain rfl : v = _ := h; rfl), (fun v W h => by obtain rfl : v = _ := h; rfl), (fun v W h => by obtain rfl : v = _ := h; rfl), trivial⟩ ⟨(fun h => Bool.noConfusion (show false = true from h)), (fun h => Bool.noConfusion (show false = true from h)), (fun h => Bool.noConfusion (show false = true from h)), (fun h => Bool.noConfusion (show false = true from h)), (fun h => Bool.noConfusion (show false = true from h)), (fun h => Bool.noConfusion (show false = true from h)), (fun h => Bool.noConfusion (show false = true from h)), (fun h => Bool.noConfusion (show false = true from h)), (fun h => Bool.noConfusion (show false = true from h)), (fun h => Bool.noConfusion (show false = true from h)), (fun h => Bool.noConfusion (show false = true from h)), (fun h => Bool.noConfusion (show false = true from h)), (fun h => Bool.noConfusion (show false = true from h)), (fun h => Bool.noConfusion (show false = true from h)), (fun h => Bool.noConfusion (show false = true from h)), (fun h => Bool.noConfusion (show false = true from h)), (fun h => Bool.noConfusion (show false = true from h)), (fun h => Bool.noConfusion (show false = true from h)), (fun h => Bool.noConfusion (show false = true from h)), (fun h => Bool.noConfusion (show false = true from h)), (fun h => Bool.noConfusion (show false = true from h)), (fun h => Bool.noConfusion (show false = true from h)), (fun h => Bool.noConfusion (show false = true from h)), (fun h => Bool.noConfusion (show false = true from h)), (fun h => Bool.noConfusion (show false = true from h)), (fun h => Bool.noConfusion (show false = true from h)), (fun h => Bool.noConfusion (show false = true from h)), (fun h => Bool.noConfusion (show false = true from h)), (fun h => Bool.noConfusion (show false = true from h)), (fun h => Bool.noConfusion (show false = true from h)), trivial⟩ (fun h k => newer_trans h k) (pickD_stable _ ⟨vIs_st, vIs_st, vIs_st, vIs_st, vIs_st, vIs_st, vIs_st, vIs_st, vIs_st, vIs_st, vIs_st, vIs_st, vIs_st, vIs_st, vIs_st, vIs_st, vIs_st, vIs_st, vIs_st, vIs_st, vIs_st, vIs_st, vIs_st, vIs_st, vIs_st, vIs_st, vIs_st, vIs_st, vIs_st, vIs_st, trivial⟩) (Below.refl _ w5).drew (Below.refl _ _) ?_ ?_)
          · refine ⟨.inr ?_, .inr ?_, .inr ?_, .inr ?_, .inr ?_, .inr ?_, .inr ?_, .inr ?_, .inr ?_, .inr ?_, .inr ?_, .inr ?_, .inr ?_, .inr ?_, .inr ?_, .inr ?_, .inr ?_, .inr ?_, .inr ?_, .inr ?_, .inr ?_, .inr ?_, .inr ?_, .inr ?_, .inr ?_, .inr ?_, .inr ?_, .inr ?_, .inr ?_, .inr ?_, trivial⟩
            · intro a W hG hR hO hp
              have h11 := hO.slot 11 (by kernel_rfl)
              refine wp_yields (v := .pointer (some ⟨bb, 2, none⟩)) ?_ ⟨_, rfl, rfl, Below.refl _ _, hG⟩
              simp [slotOf] at h11
              simp [execOp, go_sem, h11]
            · intro a W hG hR hO hp
              have h35 : slotOf a 35 = .pointer (some ⟨bb, 2, none⟩) := hp.1
              have c0 := keep_cell z2 hG
              have c1 := keep_cell z3 hG
              refine wp_yields (v := rgV bd.fr) ?_ ⟨_, rfl, rfl, Below.refl _ _, hG⟩
              simp [slotOf] at h35
              simp [execOp, go_sem, h35, c0, c1]
            · intro a W hG hR hO hp
              have h5 := hO.slot 5 (by kernel_rfl)
              have c0 := keep_cell t0 hG
              refine wp_yields (v := .slice (some ⟨bt, ot, none⟩) tl.length tc) ?_ ⟨_, rfl, rfl, Below.refl _ _, hG⟩
              simp [slotOf] at h5
              simp [execOp, go_sem, h5, c0]
            · intro a W hG hR hO hp
              have h10 := hO.slot 10 (by kernel_rfl)
              refine wp_yields (v := vi k) ?_ ⟨_, rfl, rfl, Below.refl _ _, hG⟩
              simp [slotOf] at h10
              simp [execOp, go_sem, h10]
            · intro a W hG hR hO hp
              have h37 : slotOf a 37 = .slice (some ⟨bt, ot, none⟩) tl.length tc := hp.1
              have h38 : slotOf a 38 = vi k := hp.2.1
              refine wp_yields (v := .pointer (some ⟨bt, ot + k * 3, none⟩)) ?_ ⟨_, rfl, rfl, Below.refl _ _, hG⟩
              simp [slotOf] at h37 h38
              simp [execOp, go_sem, h37, h38, hkt]
            · intro a W hG hR hO hp
              have h39 : slotOf a 39 = .pointer (some ⟨bt, ot + k * 3, none⟩) := hp.1
              refine wp_yields (v := .pointer (some ⟨bt, ot + k * 3, none⟩)) ?_ ⟨_, rfl, rfl, Below.refl _ _, hG⟩
              simp [slotOf] at h39
              simp [execOp, go_sem, h39]
            · intro a W hG hR hO hp
              have h40 : slotOf a 40 = .pointer (some ⟨bt, ot + k * 3, none⟩) := hp.1
              have c0 := keep_cell r0 hG
              refine wp_yields (v := vi y.fr) ?_ ⟨_, rfl, rfl, Below.refl _ _, hG⟩
              simp [slotOf] at h40
              simp [execOp, go_sem, h40, c0]
            · intro a W hG hR hO hp
              have h36 : slotOf a 36 = rgV bd.fr := hp.1
              have h41 : slotOf a 41 = vi y.fr := hp.2.1
              refine wp_enters (f := 75) (args := #[rgV bd.fr, vi y.fr]) ?_ ((HH1.out W).mono ?_)
              · simp [slotOf] at h36 h41
                simp [go_sem, h36, h41]
              · rintro e w' ⟨rfl, hb⟩
                exact ⟨_, rfl, _, rfl, rfl, hb, below_next hG hb⟩
            · intro a W hG hR hO hp
              have h42 : slotOf a 42 = .bool true := hp.1
              refine wp_yields (v := .bool false) ?_ ⟨_, rfl, rfl, Below.refl _ _, hG⟩
              simp [slotOf] at h42
              simp [execOp, go_sem, h42]
            · intro a W hG hR hO hp
              have h43 : slotOf a 43 = .bool false := hp.1
              refine wp_yields (v := .bool false) ?_ ⟨_, rfl, rfl, Below.refl _ _, hG⟩
              simp [slotOf] at h43
              simp [execOp, go_sem, h43]
            · intro a W hG hR hO hp
              have h11 := hO.slot 11 (by kernel_rfl)
              refine wp_yields (v := .pointer (some ⟨bb, 4, none⟩)) ?_ ⟨_, rfl, rfl, Below.refl _ _, hG⟩
              simp [slotOf] at h11
              simp [execOp, go_sem, h11]
            · intro a W hG hR hO hp
              have h45 : slotOf a 45 = .pointer (some ⟨bb, 4, none⟩) := hp.1
              have c0 := keep_cell z4 hG
              have c1 := keep_cell z5 hG
              refine wp_yields (v := rgV bd.co) ?_ ⟨_, rfl, rfl, Below.refl _ _, hG⟩
              simp [slotOf] at h45
              simp [execOp, go_sem, h45, c0, c1]
            · intro a W hG hR hO hp
              have h5 := hO.slot 5 (by kernel_rfl)
              have c0 := keep_cell t0 hG
              refine wp_yields (v := .slice (some ⟨bt, ot, none⟩) tl.length tc) ?_ ⟨_, rfl, rfl, Below.refl _ _, hG⟩
              simp [slotOf] at h5
              simp [execOp, go_sem, h5, c0]
            · intro a W hG hR hO hp
              have h10 := hO.slot 10 (by kernel_rfl)
              refine wp_yields (v := vi k) ?_ ⟨_, rfl, rfl, Below.refl _ _, hG⟩
              simp [slotOf] at h10
              simp [execOp, go_sem, h10]
            · intro a W hG hR hO hp
              have h47 : slotOf a 47 = .slice (some ⟨bt, ot, none⟩) tl.length tc := hp.1
              have h48 : slotOf a 48 = vi k := hp.2.1
              refine wp_yields (v := .pointer (some ⟨bt, ot + k * 3, none⟩)) ?_ ⟨_, rfl, rfl, Below.refl _ _, hG⟩
              simp [slotOf] at h47 h48
              simp [execOp, go_sem, h47, h48, hkt]
            · intro a W hG hR hO hp
              have h49 : slotOf a 49 = .pointer (some ⟨bt, ot + k * 3, none⟩) := hp.1
              refine wp_yields (v := .pointer (some ⟨bt, ot + k * 3 + 1, none⟩)) ?_ ⟨_, rfl, rfl, Below.refl _ _, hG⟩
              simp [slotOf] at h49
              simp [execOp, go_sem, h49]
            · intro a W hG hR hO hp
              have h50 : slotOf a 50 = .pointer (some ⟨bt, ot + k * 3 + 1, none⟩) := hp.1
              have c0 := keep_cell r1 hG
              refine wp_yields (v := vi y.co) ?_ ⟨_, rfl, rfl, Below.refl _ _, hG⟩
              simp [slotOf] at h50
              simp [execOp, go_sem, h50, c0]
            · intro a W hG hR hO hp
              have h46 : slotOf a 46 = rgV bd.co := hp.1
              have h51 : slotOf a 51 = vi y.co := hp.2.1
              refine wp_enters (f := 75) (args := #[rgV bd.co, vi y.co]) ?_ ((HH2.out W).mono ?_)
              · simp [slotOf] at h46 h51
                simp [go_sem, h46, h51]
              · rintro e w' ⟨rfl, hb⟩
                exact ⟨_, rfl, _, rfl, rfl, hb, below_next hG hb⟩
            · intro a W hG hR hO hp
              have h52 : slotOf a 52 = .bool true := hp.1
              refine wp_yields (v := .bool false) ?_ ⟨_, rfl, rfl, Below.refl _ _, hG⟩
              simp [slotOf] at h52
              simp [execOp, go_sem, h52]
            · intro a W hG hR hO hp
              have h44 : slotOf a 44 = .bool false := hp.1
              have h53 : slotOf a 53 = .bool false := hp.2.1
              refine wp_yields (v := .bool false) ?_ ⟨_, rfl, rfl, Below.refl _ _, hG⟩
              simp [slotOf] at h44 h53
              simp [execOp, go_sem, h44, h53]
            · intro a W hG hR hO hp
              have h54 : slotOf a 54 = .bool false := hp.1
              refine wp_yields (v := .bool false) ?_ ⟨_, rfl, rfl, Below.refl _ _, hG⟩
              simp [slotOf] at h54
              simp [execOp, go_sem, h54]
            · intro a W hG hR hO hp
              have h11 := hO.slot 11 (by kernel_rfl)
              refine wp_yields (v := .pointer (some ⟨bb, 6, none⟩)) ?_ ⟨_, rfl, rfl, Below.refl _ _, hG⟩
              simp [slotOf] at h11
              simp [execOp, go_sem, h11]
            · intro a W hG hR hO hp
              have h56 : slotOf a 56 = .pointer (some ⟨bb, 6, none⟩) := hp.1
              have c0 := keep_cell z6 hG
              have c1 := keep_cell z7 hG
              refine wp_yields (v := rgV bd.wa) ?_ ⟨_, rfl, rfl, Below.refl _ _, hG⟩
              simp [slotOf] at h56
              simp [execOp, go_sem, h56, c0, c1]
            · intro a W hG hR hO hp
              have h5 := hO.slot 5 (by kernel_rfl)
              have c0 := keep_cell t0 hG
              refine wp_yields (v := .slice (some ⟨bt, ot, none⟩) tl.length tc) ?_ ⟨_, rfl, rfl, Below.refl _ _, hG⟩
              simp [slotOf] at h5
              simp [execOp, go_sem, h5, c0]
            · intro a W hG hR hO hp
              have h10 := hO.slot 10 (by kernel_rfl)
              refine wp_yields (v := vi k) ?_ ⟨_, rfl, rfl, Below.refl _ _, hG⟩
              simp [slotOf] at h10
              simp [execOp, go_sem, h10]
            · intro a W hG hR hO hp
              have h58 : slotOf a 58 = .slice (some ⟨bt, ot, none⟩) tl.length tc := hp.1
              have h59 : slotOf a 59 = vi k := hp.2.1
              refine wp_yields (v := .pointer (some ⟨bt, ot + k * 3, none⟩)) ?_ ⟨_, rfl, rfl, Below.refl _ _, hG⟩
              simp [slotOf] at h58 h59
              simp [execOp, go_sem, h58, h59, hkt]
            · intro a W hG hR hO hp
              have h60 : slotOf a 60 = .pointer (some ⟨bt, ot + k * 3, none⟩) := hp.1
              refine wp_yields (v := .pointer (some ⟨bt, ot + k * 3 + 2, none⟩)) ?_ ⟨_, rfl, rfl, Below.refl _ _, hG⟩
              simp [slotOf] at h60
              simp [execOp, go_sem, h60]
            · intro a W hG hR hO hp
              have h61 : slotOf a 61 = .pointer (some ⟨bt, ot + k * 3 + 2, none⟩) := hp.1
              have c0 := keep_cell r2 hG
              refine wp_yields (v := vi y.wa) ?_ ⟨_, rfl, rfl, Below.refl _ _, hG⟩
              simp [slotOf] at h61
              simp [execOp, go_sem, h61, c0]
            · intro a W hG hR hO hp
              have h57 : slotOf a 57 = rgV bd.wa := hp.1
              have h62 : slotOf a 62 = vi y.wa := hp.2.1
              refine wp_enters (f := 75) (args := #[rgV bd.wa, vi y.wa]) ?_ ((HH3.out W).mono ?_)
              · simp [slotOf] at h57 h62
                simp [go_sem, h57, h62]
              · rintro e w' ⟨rfl, hb⟩
                exact ⟨_, rfl, _, rfl, rfl, hb, below_next hG hb⟩
            · intro a W hG hR hO hp
              have h63 : slotOf a 63 = .bool false := hp.1
              refine wp_yields (v := .bool true) ?_ ⟨_, rfl, rfl, Below.refl _ _, hG⟩
              simp [slotOf] at h63
              simp [execOp, go_sem, h63]
          · intro wz hG hR
            rintro _ rfl _ rfl _ rfl _ rfl _ rfl _ rfl _ rfl _ rfl _ rfl _ rfl _ rfl _ rfl _ rfl _ rfl _ rfl _ rfl _ rfl _ rfl _ rfl _ rfl _ rfl _ rfl _ rfl _ rfl _ rfl _ rfl _ rfl _ rfl _ rfl _ rfl
            change wpList _ _ _ _ _ _
            simp only [Act.put, List.setIfInBounds_toArray, List.set_cons_zero, List.set_cons_succ, List.drop_succ_cons, List.drop_zero]
            have HN := Lib.hid (newer_trans HE5.out.1 hG)
            have HFF := Lib.hid (HFL.out (fun h => by have h1 := h k hlt; rw [HFK.out] at h1; cases h1))
            clear hG hR HE5 t0 r0 r1 r2 z0 z1 z2 z3 z4 z5 z6 z7
            go_wp2_with fail
            exact bodyPost_ret (v := .tuple #[vi 0, vi 9]) (by simp [results, Try.results42, go_sem]) rfl ⟨by rw [HFF.out], HN.out⟩
        | true =>
          refine wp_words (by kernel_rfl) (region_told_u 30 (by kernel_rfl) (by kernel_rfl) [false, false, false, false, false, false, false, false, false, false, false, false, false, false, false, false, false, false, false, false, false, false, false, false, false, false, false, false, false, false] (fun W => Below w5.heap.size w5 W) newer [vIs (.pointer (some ⟨bb, 2, none⟩)), vIs (rgV bd.fr), vIs (.slice (some ⟨bt, ot, none⟩) tl.length tc), vIs (vi k), vIs (.pointer (some ⟨bt, ot + k * 3, none⟩)), vIs (.pointer (some ⟨bt, ot + k * 3, none⟩)), vIs (vi y.fr), vIs (.bool true), vIs (.bool false), vIs (.bool false), vIs (.pointer (some ⟨bb, 4, none⟩)), vIs (rgV bd.co), vIs (.slice (some ⟨bt, ot, none⟩) tl.length tc), vIs (vi k), vIs (.pointer (some ⟨bt, ot + k * 3, none⟩)), vIs (.pointer (some ⟨bt, ot + k * 3 + 1, none⟩)), vIs (vi y.co), vIs (.bool true), vIs (.bool false), vIs (.bool false), vIs (.bool false), vIs (.pointer (some ⟨bb, 6, none⟩)), vIs (rgV bd.wa), vIs (.slice (some ⟨bt, ot, none⟩) tl.length tc), vIs (vi k), vIs (.pointer (some ⟨bt, ot + k * 3, none⟩)), vIs (.pointer (some ⟨bt, ot + k * 3 + 2, none⟩)), vIs (vi y.wa), vIs (.bool true), vIs (.bool false)] ⟨rfl, rfl, rfl, rfl, rfl, rfl, rfl, rfl, rfl, rfl, (fun v W h => by obtain rfl : v = _ := h; rfl), (fun v W h => by obtain rfl : v = _ := h; rfl), (fun v W h => by obtain rfl : v = _ := h; rfl), (fun v W h => by obtain rfl : v = _ := h; rfl), (fun v W h => by obtain rfl : v = _ := h; rfl), (fun v W h => by obtain rfl : v = _ := h; rfl), (fun v W h => by obtain rfl : v = _ := h; rfl), (fun v W h => by obtain rfl : v = _ := h; rfl), (fun v W h => by obtain rfl : v = _ := h; rfl), rfl, rfl, (fun v W h => by obtain rfl : v = _ := h; rfl), (fun v W h => by obtain rfl : v = _ := h; rfl), (fun v W h => by obtain rfl : v = _ := h; rfl), (fun v W h => by obtain rfl : v = _ := h; rfl), (fun v W h => by obtain rfl : v = _ := h; rfl), (fun v W h => by obtain rfl : v = _ := h; rfl), (fun v W h => by obtain rfl : v = _ := h; rfl), (fun v W h => by obtain rfl : v = _ := h; rfl), (fun v W h => by obtain rfl : v = _ := h; rfl), trivial⟩ ⟨(fun h => Bool.noConfusion (show false = true from h)), (fun h => Bool.noConfusion (show false = true from h)), (fun h => Bool.noConfusion (show false = true from h)), (fun h => Bool.noConfusion (show false = true from h)), (fun h => Bool.noConfusion (show false = true from h)), (fun h => Bool.noConfusion (show false = true from h)), (fun h => Bool.noConfusion (show false = true from h)), (fun h => Bool.noConfusion (show false = true from h)), (fun h => Bool.noConfusion (show false = true from h)), (fun h => Bool.noConfusion (show false = true from h)), (fun h => Bool.noConfusion (show false = true from h)), (fun h => Bool.noConfusion (show false = true from h)), (fun h => Bool.noConfusion (show false = true from h)), (fun h => Bool.noConfusion (show false = true from h)), (fun h => Bool.noConfusion (show false = true from h)), (fun h => Bool.noConfusion (show false = true from h)), (fun h => Bool.noConfusion (show false = true from h)), (fun h => Bool.noConfusion (show false = true from h)), (fun h => Bool.noConfusion (show false = true from h)), (fun h => Bool.noConfusion (show false = true from h)), (fun h => Bool.noConfusion (show false = true from h)), (fun h => Bool.noConfusion (show false = true from h)), (fun h => Bool.noConfusion (show false = true from h)), (fun h => Bool.noConfusion (show false = true from h)), (fun h => Bool.noConfusion (show false = true from h)), (fun h => Bool.noConfusion (show false = true from h)), (fun h => Bool.noConfusion (show false = true from h)), (fun h => Bool.noConfusion (show false = true from h)), (fun h => Bool.noConfusion (show false = true from h)), (fun h => Bool.noConfusion (show false = true from h)), trivial⟩ (fun h k => newer_trans h k) (pickD_stable _ ⟨vIs_st, vIs_st, vIs_st, vIs_st, vIs_st, vIs_st, vIs_st, vIs_st, vIs_st, vIs_st, vIs_st, vIs_st, vIs_st, vIs_st, vIs_st, vIs_st, vIs_st, vIs_st, vIs_st, vIs_st, vIs_st, vIs_st, vIs_st, vIs_st, vIs_st, vIs_st, vIs_st, vIs_st, vIs_st, vIs_st, trivial⟩) (Below.refl _ w5).drew (Below.refl _ _) ?_ ?_)
          · refine ⟨.inr ?_, .inr ?_, .inr ?_, .inr ?_, .inr ?_, .inr ?_, .inr ?_, .inr ?_, .inr ?_, .inr ?_, .inr ?_, .inr ?_, .inr ?_, .inr ?_, .inr ?_, .inr ?_, .inr ?_, .inr ?_, .inr ?_, .inr ?_, .inr ?_, .inr ?_, .inr ?_, .inr ?_, .inr ?_, .inr ?_, .inr ?_, .inr ?_, .inr ?_, .inr ?_, trivial⟩
            · intro a W hG hR hO hp
              have h11 := hO.slot 11 (by kernel_rfl)
              refine wp_yields (v := .pointer (some ⟨bb, 2, none⟩)) ?_ ⟨_, rfl, rfl, Below.refl _ _, hG⟩
              simp [slotOf] at h11
              simp [execOp, go_sem, h11]
            · intro a W hG hR hO hp
              have h35 : slotOf a 35 = .pointer (some ⟨bb, 2, none⟩) := hp.1
              have c0 := keep_cell z2 hG
              have c1 := keep_cell z3 hG
              refine wp_yields (v := rgV bd.fr) ?_ ⟨_, rfl, rfl, Below.refl _ _, hG⟩
              simp [slotOf] at h35
              simp [execOp, go_sem, h35, c0, c1]
            · intro a W hG hR hO hp
              have h5 := hO.slot 5 (by kernel_rfl)
              have c0 := keep_cell t0 hG
              refine wp_yields (v := .slice (some ⟨bt, ot, none⟩) tl.length tc) ?_ ⟨_, rfl, rfl, Below.refl _ _, hG⟩
              simp [slotOf] at h5
              simp [execOp, go_sem, h5, c0]
            · intro a W hG hR hO hp
              have h10 := hO.slot 10 (by kernel_rfl)
              refine wp_yields (v := vi k) ?_ ⟨_, rfl, rfl, Below.refl _ _, hG⟩
              simp [slotOf] at h10
              simp [execOp, go_sem, h10]
            · intro a W hG hR hO hp
              have h37 : slotOf a 37 = .slice (some ⟨bt, ot, none⟩) tl.length tc := hp.1
              have h38 : slotOf a 38 = vi k := hp.2.1
              refine wp_yields (v := .pointer (some ⟨bt, ot + k * 3, none⟩)) ?_ ⟨_, rfl, rfl, Below.refl _ _, hG⟩
              simp [slotOf] at h37 h38
              simp [execOp, go_sem, h37, h38, hkt]
            · intro a W hG hR hO hp
              have h39 : slotOf a 39 = .pointer (some ⟨bt, ot + k * 3, none⟩) := hp.1
              refine wp_yields (v := .pointer (some ⟨bt, ot + k * 3, none⟩)) ?_ ⟨_, rfl, rfl, Below.refl _ _, hG⟩
              simp [slotOf] at h39
              simp [execOp, go_sem, h39]
            · intro a W hG hR hO hp
              have h40 : slotOf a 40 = .pointer (some ⟨bt, ot + k * 3, none⟩) := hp.1
              have c0 := keep_cell r0 hG
              refine wp_yields (v := vi y.fr) ?_ ⟨_, rfl, rfl, Below.refl _ _, hG⟩
              simp [slotOf] at h40
              simp [execOp, go_sem, h40, c0]
            · intro a W hG hR hO hp
              have h36 : slotOf a 36 = rgV bd.fr := hp.1
              have h41 : slotOf a 41 = vi y.fr := hp.2.1
              refine wp_enters (f := 75) (args := #[rgV bd.fr, vi y.fr]) ?_ ((HH1.out W).mono ?_)
              · simp [slotOf] at h36 h41
                simp [go_sem, h36, h41]
              · rintro e w' ⟨rfl, hb⟩
                exact ⟨_, rfl, _, rfl, rfl, hb, below_next hG hb⟩
            · intro a W hG hR hO hp
              have h42 : slotOf a 42 = .bool true := hp.1
              refine wp_yields (v := .bool false) ?_ ⟨_, rfl, rfl, Below.refl _ _, hG⟩
              simp [slotOf] at h42
              simp [execOp, go_sem, h42]
            · intro a W hG hR hO hp
              have h43 : slotOf a 43 = .bool false := hp.1
              refine wp_yields (v := .bool false) ?_ ⟨_, rfl, rfl, Below.refl _ _, hG⟩
              simp [slotOf] at h43
              simp [execOp, go_sem, h43]
            · intro a W hG hR hO hp
              have h11 := hO.slot 11 (by kernel_rfl)
              refine wp_yields (v := .pointer (some ⟨bb, 4, none⟩)) ?_ ⟨_, rfl, rfl, Below.refl _ _, hG⟩
              simp [slotOf] at h11
              simp [execOp, go_sem, h11]
            · intro a W hG hR hO hp
              have h45 : slotOf a 45 = .pointer (some ⟨bb, 4, none⟩) := hp.1
              have c0 := keep_cell z4 hG
              have c1 := keep_cell z5 hG
              refine wp_yields (v := rgV bd.co) ?_ ⟨_, rfl, rfl, Below.refl _ _, hG⟩
              simp [slotOf] at h45
              simp [execOp, go_sem, h45, c0, c1]
            · intro a W hG hR hO hp
              have h5 := hO.slot 5 (by kernel_rfl)
              have c0 := keep_cell t0 hG
              refine wp_yields (v := .slice (some ⟨bt, ot, none⟩) tl.length tc) ?_ ⟨_, rfl, rfl, Below.refl _ _, hG⟩
              simp [slotOf] at h5
              simp [execOp, go_sem, h5, c0]
            · intro a W hG hR hO hp
              have h10 := hO.slot 10 (by kernel_rfl)
              refine wp_yields (v := vi k) ?_ ⟨_, rfl, rfl, Below.refl _ _, hG⟩
              simp [slotOf] at h10
              simp [execOp, go_sem, h10]
            · intro a W hG hR hO hp
              have h47 : slotOf a 47 = .slice (some ⟨bt, ot, none⟩) tl.length tc := hp.1
              have h48 : slotOf a 48 = vi k := hp.2.1
              refine wp_yields (v := .pointer (some ⟨bt, ot + k * 3, none⟩)) ?_ ⟨_, rfl, rfl, Below.refl _ _, hG⟩
              simp [slotOf] at h47 h48
              simp [execOp, go_sem, h47, h48, hkt]
            · intro a W hG hR hO hp
              have h49 : slotOf a 49 = .pointer (some ⟨bt, ot + k * 3, none⟩) := hp.1
              refine wp_yields (v := .pointer (some ⟨bt, ot + k * 3 + 1, none⟩)) ?_ ⟨_, rfl, rfl, Below.refl _ _, hG⟩
              simp [slotOf] at h49
              simp [execOp, go_sem, h49]
            · intro a W hG hR hO hp
              have h50 : slotOf a 50 = .pointer (some ⟨bt, ot + k * 3 + 1, none⟩) := hp.1
              have c0 := keep_cell r1 hG
              refine wp_yields (v := vi y.co) ?_ ⟨_, rfl, rfl, Below.refl _ _, hG⟩
              simp [slotOf] at h50
              simp [execOp, go_sem, h50, c0]
            · intro a W hG hR hO hp
              have h46 : slotOf a 46 = rgV bd.co := hp.1
              have h51 : slotOf a 51 = vi y.co := hp.2.1
              refine wp_enters (f := 75) (args := #[rgV bd.co, vi y.co]) ?_ ((HH2.out W).mono ?_)
              · simp [slotOf] at h46 h51
                simp [go_sem, h46, h51]
              · rintro e w' ⟨rfl, hb⟩
                exact ⟨_, rfl, _, rfl, rfl, hb, below_next hG hb⟩
            · intro a W hG hR hO hp
              have h52 : slotOf a 52 = .bool true := hp.1
              refine wp_yields (v := .bool false) ?_ ⟨_, rfl, rfl, Below.refl _ _, hG⟩
              simp [slotOf] at h52
              simp [execOp, go_sem, h52]
            · intro a W hG hR hO hp
              have h44 : slotOf a 44 = .bool false := hp.1
              have h53 : slotOf a 53 = .bool false := hp.2.1
              refine wp_yields (v := .bool false) ?_ ⟨_, rfl, rfl, Below.refl _ _, hG⟩
              simp [slotOf] at h44 h53
              simp [execOp, go_sem, h44, h53]
            · intro a W hG hR hO hp
              have h54 : slotOf a 54 = .bool false := hp.1
              refine wp_yields (v := .bool false) ?_ ⟨_, rfl, rfl, Below.refl _ _, hG⟩
              simp [slotOf] at h54
              simp [execOp, go_sem, h54]
            · intro a W hG hR hO hp
              have h11 := hO.slot 11 (by kernel_rfl)
              refine wp_yields (v := .pointer (some ⟨bb, 6, none⟩)) ?_ ⟨_, rfl, rfl, Below.refl _ _, hG⟩
              simp [slotOf] at h11
              simp [execOp, go_sem, h11]
            · intro a W hG hR hO hp
              have h56 : slotOf a 56 = .pointer (some ⟨bb, 6, none⟩) := hp.1
              have c0 := keep_cell z6 hG
              have c1 := keep_cell z7 hG
              refine wp_yields (v := rgV bd.wa) ?_ ⟨_, rfl, rfl, Below.refl _ _, hG⟩
              simp [slotOf] at h56
              simp [execOp, go_sem, h56, c0, c1]
            · intro a W hG hR hO hp
              have h5 := hO.slot 5 (by kernel_rfl)
              have c0 := keep_cell t0 hG
              refine wp_yields (v := .slice (some ⟨bt, ot, none⟩) tl.length tc) ?_ ⟨_, rfl, rfl, Below.refl _ _, hG⟩
              simp [slotOf] at h5
              simp [execOp, go_sem, h5, c0]
            · intro a W hG hR hO hp
              have h10 := hO.slot 10 (by kernel_rfl)
              refine wp_yields (v := vi k) ?_ ⟨_, rfl, rfl, Below.refl _ _, hG⟩
              simp [slotOf] at h10
              simp [execOp, go_sem, h10]
            · intro a W hG hR hO hp
              have h58 : slotOf a 58 = .slice (some ⟨bt, ot, none⟩) tl.length tc := hp.1
              have h59 : slotOf a 59 = vi k := hp.2.1
              refine wp_yields (v := .pointer (some ⟨bt, ot + k * 3, none⟩)) ?_ ⟨_, rfl, rfl, Below.refl _ _, hG⟩
              simp [slotOf] at h58 h59
              simp [execOp, go_sem, h58, h59, hkt]
            · intro a W hG hR hO hp
              have h60 : slotOf a 60 = .pointer (some ⟨bt, ot + k * 3, none⟩) := hp.1
              refine wp_yields (v := .pointer (some ⟨bt, ot + k * 3 + 2, none⟩)) ?_ ⟨_, rfl, rfl, Below.refl _ _, hG⟩
              simp [slotOf] at h60
              simp [execOp, go_sem, h60]
            · intro a W hG hR hO hp
              have h61 : slotOf a 61 = .pointer (some ⟨bt, ot + k * 3 + 2, none⟩) := hp.1
              have c0 := keep_cell r2 hG
              refine wp_yields (v := vi y.wa) ?_ ⟨_, rfl, rfl, Below.refl _ _, hG⟩
              simp [slotOf] at h61
              simp [execOp, go_sem, h61, c0]
            · intro a W hG hR hO hp
              have h57 : slotOf a 57 = rgV bd.wa := hp.1
              have h62 : slotOf a 62 = vi y.wa := hp.2.1
              refine wp_enters (f := 75) (args := #[rgV bd.wa, vi y.wa]) ?_ ((HH3.out W).mono ?_)
              · simp [slotOf] at h57 h62
                simp [go_sem, h57, h62]
              · rintro e w' ⟨rfl, hb⟩
                exact ⟨_, rfl, _, rfl, rfl, hb, below_next hG hb⟩
            · intro a W hG hR hO hp
              have h63 : slotOf a 63 = .bool true := hp.1
              refine wp_yields (v := .bool false) ?_ ⟨_, rfl, rfl, Below.refl _ _, hG⟩
              simp [slotOf] at h63
              simp [execOp, go_sem, h63]
          · intro wz hG hR
            rintro _ rfl _ rfl _ rfl _ rfl _ rfl _ rfl _ rfl _ rfl _ rfl _ rfl _ rfl _ rfl _ rfl _ rfl _ rfl _ rfl _ rfl _ rfl _ rfl _ rfl _ rfl _ rfl _ rfl _ rfl _ rfl _ rfl _ rfl _ rfl _ rfl _ rfl
            change wpList _ _ _ _ _ _
            simp only [Act.put, List.setIfInBounds_toArray, List.set_cons_zero, List.set_cons_succ, List.drop_succ_cons, List.drop_zero]
            have HN := Lib.hid (And.intro (newer_trans HE5.out.1 hG) (And.intro (HE5.out.2.1.below hG HE5.out.2.1.lt) ((HE5.out.2.2.below hG).more hG.size)))
            clear hG hR HE5 t0 r0 r1 r2 z0 z1 z2 z3 z4 z5 z6 z7
            go_wp2_with fail
            refine ⟨⟨k + 1, rfl, by omega, fun i h => ?_, HN.out.1, HN.out.2.1, HN.out.2.2⟩, ?_⟩
            · by_cases hik : i = k
              · rw [hik, HFK.out]; rfl
              · exact HFI.out i (by omega)
            · simp [intOf]
              omega
      · obtain rfl : k = bs.length := by omega
        obtain ⟨D, hD⟩ : ∃ D, D = dK bs bs.length := ⟨_, rfl⟩
        obtain ⟨H, hH⟩ : ∃ H, H = hK bs (fun i => tl.getD i ⟨0, 0, 0⟩) bs.length := ⟨_, rfl⟩
        have HRV : Hid (R = if D < 1 then (0, 7) else (factorN H D, 0)) := Lib.hid (by rw [HRR.out, if_pos (fitsA_iff.2 ⟨HLN.out, HFI.out⟩), ← hD, ← hH])
        have HFA : Hid (Calls Try.prog 59 #[.slice A bs.length c, .func (.func 76) #[] #[.pointer (some ⟨w.heap.size + 1 + 1, 0, none⟩)]] wr fun e w' => e = .returned (facV H D) ∧ newer wr w') := Lib.hid (by
          rw [hH, hD]
          refine factor_any bs A c 76 #[.pointer (some ⟨w.heap.size + 1 + 1, 0, none⟩)] (fun i => tl.getD i ⟨0, 0, 0⟩) wr (by omega) HJ.out.2.2 HBO.out (fun i hi => ?_) (fun args W => by simp [go_sem]) (fun i b W hb hW => ?_)
          · obtain ⟨b, hb⟩ := get_of_lt (l := bs) (k := i) hi
            have hge : bs.getD i zeroBd = b := by simp [List.getD, hb]
            have h1 := HFI.out i hi
            rw [hge] at h1
            exact fit_rlB (HBO.out b (List.mem_of_getElem? hb)) h1
          · obtain ⟨y, hy⟩ := get_of_lt (l := tl) (k := i) (by rw [HLN.out]; exact (List.getElem?_eq_some_iff.1 hb).1)
            have hgy : tl.getD i ⟨0, 0, 0⟩ = y := by simp [List.getD, hy]
            show Calls _ _ _ _ fun e w' => e = .returned (rlV (tl.getD i ⟨0, 0, 0⟩)) ∧ newer W w'
            rw [hgy]
            exact truthAt_any tl TA tc _ i b y W (HJ.out.2.1.below hW HJ.out.2.1.lt) ((HOK.out.2.2.below (newer_trans HJ.out.1 hW)).more (newer_trans HJ.out.1 hW).size) hy)
        clear hD hH
        unfold facV at HFA
        by_cases hd1 : D < 1
        · rw [if_pos hd1] at HFA HRV
          go_wp2_with fail
          refine (HFA.out).mono ?_
          rintro e w6 ⟨rfl, hb⟩
          have HE := Lib.hid (newer_trans HJ.out.1 hb)
          clear hb
          go_wp2_with fail
          exact bodyPost_ret (v := .tuple #[vi 0, vi 7]) (by simp [results, Try.results42, go_sem]) rfl ⟨by rw [HRV.out], HE.out⟩
        · rw [if_neg hd1] at HFA HRV
          obtain ⟨fv, hfv⟩ : ∃ fv, fv = factorN H D := ⟨_, rfl⟩
          rw [← hfv] at HFA HRV
          clear hfv
          go_wp2_with fail
          refine (HFA.out).mono ?_
          rintro e w6 ⟨rfl, hb⟩
          have HE := Lib.hid (newer_trans HJ.out.1 hb)
          clear hb
          go_wp2_with fail
          exact bodyPost_ret (v := .tuple #[vi fv, vi 0]) (by simp [results, Try.results42, go_sem]) rfl ⟨by rw [HRV.out], HE.out⟩
  · rw [if_neg hz] at hR
    have hz2 : (a == 0) = false := by rw [beq_eq_false_iff_ne]; exact hz
    have hz3 : (a != 0) = true := by simp [hz]
    have HRR := Lib.hid hR
    clear HZ hR hz
    go_enter Try.func42, Try.ntmps42
    go_wp2_with fail
    refine (HCU.out).mono ?_
    rintro e w1 ⟨rfl, hb⟩
    have HE := Lib.hid (newer_trans H0.out.1 hb)
    clear H0 hb HCU x0 x1 u0 u1
    go_wp2_with fail
    exact bodyPost_ret (v := .tuple #[vi 0, vi a]) (by simp [results, Try.results42, go_sem]) rfl ⟨by rw [HRR.out], HE.out⟩

end Go.Proofs.Ytkenokpobbichaa
