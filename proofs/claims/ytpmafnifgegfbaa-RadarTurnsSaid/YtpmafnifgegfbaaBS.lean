/- All lists of whole turns of a field, by the reference. -/
import Derived.Test.YtpmafnifgegfbaaBR
namespace Go.Proofs.Ytpmafnifgegfbaa
open Go.RowKit Go.Shelf Go.Deep

theorem intL_oneN (n : Int) : ∀ u ∈ intL n, u.oneCell' = true := by
  intro u hu
  obtain rfl := List.mem_singleton.1 hu
  rfl
theorem ways_len (s : Sd) (j : Nat) (t : Tl) (m : Mv) : (waysN s j t m).length ≤ 3001 := by
  unfold waysN
  split
  · split <;> simp
  · exact Nat.le_trans (List.length_filter_le _ _) (by unfold kAll; rw [List.length_map, List.length_range]; exact Nat.le_refl _)
theorem rowi_snoc {W : World} {H : Nat} {B : Option Addr} {c : Nat} {bb : List Int} {m : Int} (h : W.ownsRow H 3 1 (.slice B (bb.length + 1) c) (bb.length + 1) (bb.flatMap intL ++ [m].flatMap intL)) : Row intL 1 W W.heap.size B (bb ++ [m]) := by
  rw [← List.flatMap_append] at h
  exact row_of_own (enc := intL) (size := 1) (by decide) (fun _ => rfl) h
set_option maxRecDepth 100000 in
set_option maxHeartbeats 8000000 in
theorem lists_step (y : Sm) (f : List Mv) (hs : SdOk y.s) (h3 : y.s.tools.length ≤ 3) (hfl : f.length = y.s.spots.length) (hbd : ∀ m ∈ f, (-30 ≤ m.1 ∧ m.1 ≤ 30) ∧ -30 ≤ m.2 ∧ m.2 ≤ 30) (q : Nat) (ih : ListsAt y f q) : ListsAt y f (q + 1) := by
  intro b0 ba bc fa fc tool w hok hf hb hr hbl
  obtain ⟨t, ht⟩ : ∃ t, y.s.tools[tool]? = some t := ⟨_, List.getElem?_eq_getElem (by omega)⟩
  have hto := hs.tool t (List.mem_of_getElem? ht)
  obtain ⟨sp, hsp⟩ : ∃ sp : Nat, t.spot = (sp : Int) := ⟨t.spot.toNat, by have := hto.spot; omega⟩
  have hsf : (sp : Int) < f.length := by have := hto.spot; omega
  obtain ⟨m, hm⟩ : ∃ m, f[sp]? = some m := ⟨_, List.getElem?_eq_getElem (by omega)⟩
  obtain ⟨fb, fo, rfl, -, m0, m1⟩ := row2 hf hm
  obtain ⟨tb, tof, et, -, t0, t1, t2, t3, t4, t5, t6⟩ := row7 hok.tl ht
  rw [hsp] at t0
  have hmb := hbd m (List.mem_of_getElem? hm)
  obtain ⟨L, hL⟩ : ∃ L, L = waysN y.s tool t m := ⟨_, rfl⟩
  have HWY0 := Lib.hid (fun W (hW : newer w W) => ways_any y tool t m W (hok.next hW) hs ht hmb.1 hmb.2)
  rw [← hL] at HWY0
  obtain ⟨tj, hj⟩ : ∃ j, j = tool + 1 := ⟨_, rfl⟩
  have ej : (tool : Int) + 1 = (tj : Int) := by omega
  have ewj : IntKind.i64.wrap (tj : Int) = (tj : Int) := IntWalk.i64_in _ (by omega)
  have HRF : Hid (∀ W, newer w W → Row mvL 2 W W.heap.size (some ⟨fb, fo, none⟩) f) := Lib.hid (fun W hW => (hf.below hW).more hW.size)
  have HRB : Hid (∀ W, newer w W → Row intL 1 W W.heap.size ba b0) := Lib.hid (fun W hW => (hb.below hW).more hW.size)
  have HIH0 : Hid (∀ W, newer w W → Calls Try.prog 70 #[smV y, .slice (some ⟨fb, fo, none⟩) f.length fc, vi tj, .slice ba b0.length bc] W fun e w' => (∃ (xs : List Ln) (A : Option Addr) (c : Nat), e = .returned (.slice A xs.length c) ∧ Row lnL 1 w' w'.heap.size A xs ∧ LkIn W.heap.size xs w' ∧ xs.map (·.l) = listsR y.s f q tj b0) ∧ newer W w') := Lib.hid (fun W hW => ih b0 ba bc _ fc tj W (hok.next hW) (HRF.out W hW) (HRB.out W hW) (by omega) (by omega))
  have HIH : Hid (∀ (k : Int) (B : Option Addr) (c : Nat) (W : World), newer w W → Row intL 1 W W.heap.size B (b0 ++ [k]) → Calls Try.prog 70 #[smV y, .slice (some ⟨fb, fo, none⟩) f.length fc, vi tj, .slice B (b0.length + 1) c] W fun e w' => (∃ (xs : List Ln) (A : Option Addr) (c : Nat), e = .returned (.slice A xs.length c) ∧ Row lnL 1 w' w'.heap.size A xs ∧ LkIn W.heap.size xs w' ∧ xs.map (·.l) = listsR y.s f q tj (b0 ++ [k])) ∧ newer W w') := Lib.hid (fun k B c W hW hR => by
    have h := ih (b0 ++ [k]) B c _ fc tj W (hok.next hW) (HRF.out W hW) hR (by omega) (by rw [List.length_append, List.length_singleton]; omega)
    rw [List.length_append, List.length_singleton] at h
    exact h)
  have HL0 : Hid (t.turn = 0 → listsR y.s f (q + 1) tool b0 = listsR y.s f q tj b0) := Lib.hid (fun e => by rw [listsR, ht, hj]; exact if_pos e)
  have HLF : Hid (t.turn ≠ 0 → listsR y.s f (q + 1) tool b0 = L.flatMap fun k => listsR y.s f q tj (b0 ++ [k])) := Lib.hid (fun e => by
    rw [listsR, ht, hj, hL]
    show (if t.turn = 0 then _ else _) = _
    rw [if_neg e, hsp, Int.toNat_natCast, fnL_at hm])
  have HTA := Lib.hid et
  have HM0 := Lib.hid (And.intro t0 (And.intro t3 (And.intro m0 m1)))
  have HBL := Lib.hid (show b0.length ≤ 8 by omega)
  have HLL : Hid (L.length ≤ 3001) := Lib.hid (by rw [hL]; exact ways_len _ _ _ _)
  have HQ2 := Lib.hid (show q ≤ 2 by omega)
  obtain ⟨i0, hi0, hz0, hz1, hz2⟩ := info_parts info_int
  have HI := Lib.hid (And.intro hi0 (And.intro hz0 (And.intro hz1 hz2)))
  clear hi0 hz0 hz1 hz2
  obtain ⟨i1, hi0, hz0, hz1, hz2⟩ := info_parts info_intsN
  have HI1 := Lib.hid (And.intro hi0 (And.intro hz0 (And.intro hz1 hz2)))
  clear hi0 hz0 hz1 hz2
  have htl : (tool : Int) < y.s.tools.length := by omega
  have e1 : ((tool : Int) == (y.s.tools.length : Int)) = false := by simp; omega
  have e2 : (tool == y.s.tools.length) = false := by simp; omega
  clear hbd hok hf hb hr hbl ht hto hm et hmb hL hj t1 t2 t4 t5 t6 ih hs h3 hfl
  go_enter Try.func70, Try.ntmps70
  go_upto_region 1 with fail
  refine genQ (fun X => newer w X ∧ Whole X w.heap.size 26 (smC y)) ⟨newer_allocH _ _, Whole.made _ _ _⟩ ?_
  rintro w1 ⟨hn1, hx1⟩
  have H1 := Lib.hid (And.intro hn1 hx1)
  have x2 := hx1.at 2 (v := .slice y.ta y.s.tools.length y.tc) rfl
  rw [HTA.out] at x2
  have t0 := keep_cell t0 hn1
  have t3 := keep_cell t3 hn1
  have m0 := keep_cell m0 hn1
  have m1 := keep_cell m1 hn1
  clear hn1 hx1
  by_cases hT : t.turn = 0
  · have HT := Lib.hid (HL0.out hT)
    go_upto_region 4 with fail
    clear x2 t0 t3 m0 m1
    have x0 := H1.out.2.at 0 (v := .slice y.sa y.s.spots.length y.sc) rfl
    have x1 := H1.out.2.at 1 (v := vi y.s.strain) rfl
    have x2 := H1.out.2.at 2 (v := .slice y.ta y.s.tools.length y.tc) rfl
    have x3 := H1.out.2.at 3 (v := vi y.s.day) rfl
    have x4 := H1.out.2.at 4 (v := .slice y.ra y.s.reads.length y.rc) rfl
    go_wp2_with fail
    refine (HIH0.out w1 H1.out.1).mono ?_
    rintro e w2 ⟨⟨xs, A, c, rfl, h1, h2, h4⟩, hb⟩
    have HE := Lib.hid (And.intro h1 (And.intro (h2.low H1.out.1.size) (And.intro (h4.trans HT.out.symm) (newer_trans H1.out.1 hb))))
    clear h1 h2 h4 hb
    go_wp2_with fail
    go_ret
    refine ⟨?_, HE.out.2.2.2⟩
    first | exact ⟨xs, A, c, rfl, HE.out.1, HE.out.2.1, HE.out.2.2.1⟩ | exact ⟨xs, A, ⟨c, rfl⟩, HE.out.1, HE.out.2.1, HE.out.2.2.1⟩
  · have HT := Lib.hid (HLF.out hT)
    have hTb : (t.turn == 0) = false := by simpa using hT
    clear hT
    go_upto_region 6 with fail
    clear hTb
    clear x2 t3
    have x0 := H1.out.2.at 0 (v := .slice y.sa y.s.spots.length y.sc) rfl
    have x1 := H1.out.2.at 1 (v := vi y.s.strain) rfl
    have x2 := H1.out.2.at 2 (v := .slice y.ta y.s.tools.length y.tc) rfl
    have x3 := H1.out.2.at 3 (v := vi y.s.day) rfl
    have x4 := H1.out.2.at 4 (v := .slice y.ra y.s.reads.length y.rc) rfl
    have HWY : Hid (∀ W, newer w1 W → Calls Try.prog 78 #[smV y, vi tool, mvV m] W fun e w' => ∃ B d, e = .returned (.slice B L.length d) ∧ w'.ownsRow W.heap.size 3 1 (.slice B L.length d) L.length (L.map vi) ∧ newer W w') := Lib.hid (fun W hW => HWY0.out W (newer_trans H1.out.1 hW))
    refine wp_words (by kernel_rfl) (region_told 12 (by kernel_rfl) (by kernel_rfl) (fun W => Below w1.heap.size w1 W) newer (pickD [vIs (smV y), vIs (.int .i64 tool), vIs (.slice (some ⟨fb, fo, none⟩) f.length fc), vIs (.pointer (some ⟨w.heap.size, 2, none⟩)), vIs (.slice y.ta y.s.tools.length y.tc), vIs (.int .i64 tool), vIs (.pointer (some ⟨tb, tof + tool * 7, none⟩)), vIs (.pointer (some ⟨tb, tof + tool * 7, none⟩)), vIs (.int .i64 sp), vIs (.pointer (some ⟨fb, fo + sp * 2, none⟩)), vIs (mvV m), vOwnV w1.heap.size 3 1 L.length (L.map vi)]) (fun h k => newer_trans h k) (pickD_stable _ ⟨vIs_st, vIs_st, vIs_st, vIs_st, vIs_st, vIs_st, vIs_st, vIs_st, vIs_st, vIs_st, vIs_st, vOwnV_st, trivial⟩) (Below.refl _ w1).drew (Below.refl _ _) ?_ ?_)
    · refine ⟨?_, ?_, ?_, ?_, ?_, ?_, ?_, ?_, ?_, ?_, ?_, ?_, trivial⟩
      · intro a W hG hR hO hp
        have h4 := hO.slot 4 (by kernel_rfl)
        have c0 := keep_cell x0 hG
        have c1 := keep_cell x1 hG
        have c2 := keep_cell x2 hG
        have c3 := keep_cell x3 hG
        have c4 := keep_cell x4 hG
        refine kY (v := smV y) hG rfl ?_
        simp [slotOf] at h4
        simp [execOp, go_sem, h4, c0, c1, c2, c3, c4]
      · exact fun a W hG _ hO _ => kM 2 rfl (hO.slot 2 (by kernel_rfl)) rfl hG
      · exact fun a W hG _ hO _ => kM 1 rfl (hO.slot 1 (by kernel_rfl)) rfl hG
      · intro a W hG hR hO hp
        have h4 := hO.slot 4 (by kernel_rfl)
        refine kY (v := .pointer (some ⟨w.heap.size, 2, none⟩)) hG rfl ?_
        simp [slotOf] at h4
        simp [execOp, go_sem, h4]
      · intro a W hG hR hO hp
        have h37 : slotOf a 37 = .pointer (some ⟨w.heap.size, 2, none⟩) := hp.1
        have c0 := keep_cell x2 hG
        refine kY (v := .slice y.ta y.s.tools.length y.tc) hG rfl ?_
        simp [slotOf] at h37
        simp [execOp, go_sem, h37, c0]
      · exact fun a W hG _ hO _ => kM 2 rfl (hO.slot 2 (by kernel_rfl)) rfl hG
      · intro a W hG hR hO hp
        have h38 : slotOf a 38 = .slice y.ta y.s.tools.length y.tc := hp.1
        have h39 : slotOf a 39 = .int .i64 tool := hp.2.1
        refine kY (v := .pointer (some ⟨tb, tof + tool * 7, none⟩)) hG rfl ?_
        simp [slotOf] at h38 h39
        simp [execOp, go_sem, h38, h39, HTA.out, htl]
      · intro a W hG hR hO hp
        have h40 : slotOf a 40 = .pointer (some ⟨tb, tof + tool * 7, none⟩) := hp.1
        refine kY (v := .pointer (some ⟨tb, tof + tool * 7, none⟩)) hG rfl ?_
        simp [slotOf] at h40
        simp [execOp, go_sem, h40]
      · intro a W hG hR hO hp
        have h41 : slotOf a 41 = .pointer (some ⟨tb, tof + tool * 7, none⟩) := hp.1
        have c0 := keep_cell t0 hG
        refine kY (v := .int .i64 sp) hG rfl ?_
        simp [slotOf] at h41
        simp [execOp, go_sem, h41, c0]
      · intro a W hG hR hO hp
        have h36 : slotOf a 36 = .slice (some ⟨fb, fo, none⟩) f.length fc := hp.1
        have h42 : slotOf a 42 = .int .i64 sp := hp.2.1
        refine kY (v := .pointer (some ⟨fb, fo + sp * 2, none⟩)) hG rfl ?_
        simp [slotOf] at h36 h42
        simp [execOp, go_sem, h36, h42, hsf]
      · intro a W hG hR hO hp
        have h43 : slotOf a 43 = .pointer (some ⟨fb, fo + sp * 2, none⟩) := hp.1
        have c0 := keep_cell m0 hG
        have c1 := keep_cell m1 hG
        refine kY (v := mvV m) hG rfl ?_
        simp [slotOf] at h43
        simp [execOp, go_sem, h43, c0, c1]
      · intro a W hG hR hO hp
        have h34 : slotOf a 34 = smV y := hp.1
        have h35 : slotOf a 35 = .int .i64 tool := hp.2.1
        have h44 : slotOf a 44 = mvV m := hp.2.2.1
        refine wp_enters (f := 78) (args := #[smV y, vi tool, mvV m]) ?_ ((HWY.out W hG).mono ?_)
        · simp [slotOf] at h34 h35 h44
          simp [go_sem, h34, h35, h44]
        · rintro e w' ⟨B, d, rfl, h1, h2⟩
          exact ⟨_, rfl, _, rfl, ⟨B, d, rfl, own_more h1 hG.size⟩, h2, below_next hG h2⟩
    · intro w2 hG hR
      rintro _ rfl _ rfl _ rfl _ rfl _ rfl _ rfl _ rfl _ rfl _ rfl _ rfl _ rfl _ ⟨WA, wd, rfl, hto⟩
      change wpList _ _ _ _ _ _
      simp only [Act.put, List.setIfInBounds_toArray, List.set_cons_zero, List.set_cons_succ, List.drop_succ_cons, List.drop_zero]
      have HW2 := Lib.hid (And.intro hto (And.intro (newer_trans H1.out.1 hG) (And.intro (H1.out.2.below hG H1.out.2.lt) (show w.heap.size < w2.heap.size from Nat.lt_of_lt_of_le H1.out.2.lt hG.size))))
      clear hto hG x0 x1 x2 x3 x4 t0 m0 m1 HWY HWY0 HIH0 HM0
      obtain ⟨g, hg⟩ : ∃ g : Int → List (List Int), g = fun k => listsR y.s f q tj (b0 ++ [k]) := ⟨_, rfl⟩
      have HGE : Hid (∀ k, g k = listsR y.s f q tj (b0 ++ [k])) := Lib.hid (fun k => by rw [hg])
      have HTG : Hid (listsR y.s f (q + 1) tool b0 = L.flatMap g) := Lib.hid (by rw [hg]; exact HT.out)
      have HGL : Hid (∀ k, (g k).length ≤ 9006001) := Lib.hid (fun k => by rw [HGE.out]; exact Nat.le_trans (lists_few q tj _) (Nat.le_trans (Nat.pow_le_pow_right (by decide) HQ2.out) (by decide)))
      have HLB : Hid (∀ i, ((L.take i).flatMap g).length ≤ 27027009001) := Lib.hid (fun i => Nat.le_trans (flat_le (c := 9006001) (L.take i) (fun k _ => HGL.out k)) (Nat.le_trans (Nat.mul_le_mul_right _ (show (L.take i).length ≤ 3001 by rw [List.length_take]; have := HLL.out; omega)) (by decide)))
      clear hg HT
      have hl3 := HLL.out
      by_cases hL0 : L.length = 0
      · have HLE : Hid (L = []) := Lib.hid (List.eq_nil_of_length_eq_zero hL0)
        have hil : ¬ (0 : Int) < (L.length : Int) := by omega
        clear hL0 hl3
        go_wp2_with fail
        try go_frame
        go_loopw [9, 11] (fun s9 s11 wr => s9 = .slice none 0 0 ∧ s11 = vi 0 ∧ newer w2 wr) (fun _ _ _ => 0)
        case atStart => exact ⟨rfl, rfl, newer_refl _⟩
        case round =>
          obtain ⟨rfl, rfl, hn2⟩ := hrel
          have HZ := Lib.hid (newer_trans HW2.out.2.1 hn2)
          have HE : Hid (listsR y.s f (q + 1) tool b0 = []) := Lib.hid (by rw [HTG.out, HLE.out]; rfl)
          clear hn2
          go_wp2_with fail
          go_ret
          refine ⟨?_, HZ.out⟩
          have hr : Row lnL 1 wr wr.heap.size none ([] : List Ln) := fun h => absurd rfl h
          have hk : LkIn w.heap.size [] wr := ⟨fun x hx => by simp at hx, fun x hx => by simp at hx, fun x hx => by simp at hx⟩
          first | exact ⟨[], none, 0, rfl, hr, hk, HE.out.symm⟩ | exact ⟨[], none, ⟨0, rfl⟩, hr, hk, HE.out.symm⟩
      · obtain ⟨wg, rfl, -⟩ := own_some HW2.out.1 (by omega)
        have HRL : Hid (∀ (i : Nat) (k : Int), L[i]? = some k → w2.cell? ⟨wg, i, none⟩ = some (vi k)) := Lib.hid (fun i k hk => by
          have h := HW2.out.1
          rw [← map_vi] at h
          have h := row_of_own (enc := intL) (size := 1) (by decide) (fun _ => rfl) h
          obtain ⟨b4, o4, e4, -, h1⟩ := row1 h hk
          injection e4 with e4
          injection e4 with e5 e6
          subst e5 e6
          simpa using h1)
        go_wp2_with fail
        try go_frame
        go_loopw [9, 11] (fun s9 s11 wr => ∃ (i : Nat) (us : List Ln) (A : Option Addr) (c : Nat), i ≤ L.length ∧ s9 = .slice A us.length c ∧ s11 = vi i ∧ LkJ w2.heap.size ((L.take i).flatMap g) us A c wr ∧ newer w2 wr) (fun _ s11 _ => L.length - (intOf s11).toNat)
        case atStart => exact ⟨0, [], none, 0, Nat.zero_le _, rfl, rfl, LkJ.none _ _, newer_refl _⟩
        case round =>
          obtain ⟨i, us, A, c, hi, rfl, rfl, hj, hn2⟩ := hrel
          have hnw := newer_trans HW2.out.2.1 hn2
          have hx := HW2.out.2.2.1.below hn2 HW2.out.2.2.1.lt
          have HJ := Lib.hid (And.intro hj (And.intro hn2 (And.intro hnw hx)))
          by_cases hlt : i < L.length
          · have hil : (i : Int) < L.length := by omega
            obtain ⟨kv, hk⟩ : ∃ k, L[i]? = some k := ⟨_, List.getElem?_eq_getElem hlt⟩
            have k0 := keep_cell (HRL.out i kv hk) hn2
            have HKV := Lib.hid hk
            have x0 := hx.at 0 (v := .slice y.sa y.s.spots.length y.sc) rfl
            have x1 := hx.at 1 (v := vi y.s.strain) rfl
            have x2 := hx.at 2 (v := .slice y.ta y.s.tools.length y.tc) rfl
            have x3 := hx.at 3 (v := vi y.s.day) rfl
            have x4 := hx.at 4 (v := .slice y.ra y.s.reads.length y.rc) rfl
            clear hj hn2 hnw hx hk
            go_wp2_with fail
            go_upto_region 10 with fail
            refine wp_words (by kernel_rfl) (region_turn 15 13 (by kernel_rfl) (by kernel_rfl) (by decide) (fun _ W => Below wr.heap.size wr W) (pickB [vIs (.slice A us.length c), vIs (smV y), vIs (.slice (some ⟨fb, fo, none⟩) f.length fc), vIs (.int .i64 tool), vIs (.int .i64 tj), vEmpT wr.heap.size 3, vIs (.slice ba b0.length bc), vOwn wr.heap.size 3 1 intL b0, vIs (.slice (some ⟨wg, 0, none⟩) L.length wd), vIs (.int .i64 i), vIs (.pointer (some ⟨wg, i, none⟩)), vIs (.int .i64 kv), vOne wr.heap.size 3 #[vi kv], (fun _ _ => False), (fun _ _ => False)] [vIs (.slice A us.length c), vIs (smV y), vIs (.slice (some ⟨fb, fo, none⟩) f.length fc), vIs (.int .i64 tool), vIs (.int .i64 tj), (fun _ _ => True), vIs (.slice ba b0.length bc), (fun _ _ => True), vIs (.slice (some ⟨wg, 0, none⟩) L.length wd), vIs (.int .i64 i), vIs (.pointer (some ⟨wg, i, none⟩)), vIs (.int .i64 kv), (fun _ _ => True), vOwnV wr.heap.size 3 1 (b0.length + 1) (b0.flatMap intL ++ [kv].flatMap intL), vLks wr.heap.size (listsR y.s f q tj (b0 ++ [kv]))]) (pickB_stable ⟨vIs_st, vIs_st, vIs_st, vIs_st, vIs_st, vEmpT_st, vIs_st, vOwn_st, vIs_st, vIs_st, vIs_st, vIs_st, vOne_st, (fun _ _ _ h _ => h), (fun _ _ _ h _ => h), trivial⟩ ⟨vIs_st, vIs_st, vIs_st, vIs_st, vIs_st, (fun _ _ _ h _ => h), vIs_st, (fun _ _ _ h _ => h), vIs_st, vIs_st, vIs_st, vIs_st, (fun _ _ _ h _ => h), vOwnV_st, vLks_st, trivial⟩) (Below.refl _ wr).drew ?_ ?_)
            · refine ⟨?_, ?_, ?_, ?_, ?_, ?_, ?_, ?_, ?_, ?_, ?_, ?_, ?_, ?_, ?_, trivial⟩
              · intro b a W hG hO hp
                have h9 := hO.slot 9 (by kernel_rfl)
                refine wp_yields (v := .slice A us.length c) ?_ ⟨_, rfl, (by cases b <;> rfl), Below.refl _ _, hG⟩
                simp [slotOf] at h9
                simp [execOp, go_sem, h9]
              · intro b a W hG hO hp
                have h4 := hO.slot 4 (by kernel_rfl)
                have c0 := keep_cell x0 hG
                have c1 := keep_cell x1 hG
                have c2 := keep_cell x2 hG
                have c3 := keep_cell x3 hG
                have c4 := keep_cell x4 hG
                refine wp_yields (v := smV y) ?_ ⟨_, rfl, (by cases b <;> rfl), Below.refl _ _, hG⟩
                simp [slotOf] at h4
                simp [execOp, go_sem, h4, c0, c1, c2, c3, c4]
              · intro b a W hG hO hp
                have h1 := hO.slot 1 (by kernel_rfl)
                refine wp_yields (v := .slice (some ⟨fb, fo, none⟩) f.length fc) ?_ ⟨_, rfl, (by cases b <;> rfl), Below.refl _ _, hG⟩
                simp [slotOf] at h1
                simp [execOp, go_sem, h1]
              · intro b a W hG hO hp
                have h2 := hO.slot 2 (by kernel_rfl)
                refine wp_yields (v := .int .i64 tool) ?_ ⟨_, rfl, (by cases b <;> rfl), Below.refl _ _, hG⟩
                simp [slotOf] at h2
                simp [execOp, go_sem, h2]
              · intro b a W hG hO hp
                have h55 : slotOf a 55 = .int .i64 tool := by cases b <;> exact hp.1
                refine wp_yields (v := .int .i64 tj) ?_ ⟨_, rfl, (by cases b <;> rfl), Below.refl _ _, hG⟩
                simp [slotOf] at h55
                simp [execOp, go_sem, h55, ej, ewj]
              · intro b a W hG hO hp
                refine wp_makes (v := .slice (some ⟨W.heap.size, 0, none⟩) 0 0) (W' := W.alloc (.cells #[] 3)) ?_ ⟨_, rfl, (by cases b with | false => exact ⟨_, rfl, hG.size, Whole.made _ _ _⟩ | true => trivial), newer_allocH _ _, below_next hG (newer_allocH _ _)⟩
                skip
                simp [execOp, go_sem]
              · intro b a W hG hO hp
                have h3 := hO.slot 3 (by kernel_rfl)
                refine wp_yields (v := .slice ba b0.length bc) ?_ ⟨_, rfl, (by cases b <;> rfl), Below.refl _ _, hG⟩
                simp [slotOf] at h3
                simp [execOp, go_sem, h3]
              · intro a W hG hO hp
                have h57 := hp.1
                have h58 : slotOf a 58 = .slice ba b0.length bc := hp.2.1
                obtain ⟨nb, h57, hnb, hW⟩ := h57
                obtain ⟨hi0, hz0, hz1, hz2⟩ := HI.out
                refine wp_append_owncopy (enc := intL) (size := 1) wr.heap.size (.tmp 57) (.tmp 58) 24 3 i0 (.int .i64 0) 8 Try.underlying24 hi0 hz0 hz1 hz2 rfl (by omega) (by omega) (fun _ => rfl) rfl nb ((eval_slot a 57).trans h57) hnb hW b0 ba bc ((eval_slot a 58).trans h58) (by have := HBL.out; omega) (HRB.out W (newer_trans HJ.out.2.2.1 hG)) hG.size ?_
                intro B c' w' hown hb hlt
                exact ⟨_, rfl, ⟨B, c', rfl, hown⟩, hb, below_next hG hb⟩
              · intro b a W hG hO hp
                have h10 := hO.slot 10 (by kernel_rfl)
                refine wp_yields (v := .slice (some ⟨wg, 0, none⟩) L.length wd) ?_ ⟨_, rfl, (by cases b <;> rfl), Below.refl _ _, hG⟩
                simp [slotOf] at h10
                simp [execOp, go_sem, h10]
              · intro b a W hG hO hp
                have h11 := hO.slot 11 (by kernel_rfl)
                refine wp_yields (v := .int .i64 i) ?_ ⟨_, rfl, (by cases b <;> rfl), Below.refl _ _, hG⟩
                simp [slotOf] at h11
                simp [execOp, go_sem, h11]
              · intro b a W hG hO hp
                have h60 : slotOf a 60 = .slice (some ⟨wg, 0, none⟩) L.length wd := by cases b <;> exact hp.1
                have h61 : slotOf a 61 = .int .i64 i := by cases b <;> exact hp.2.1
                refine wp_yields (v := .pointer (some ⟨wg, i, none⟩)) ?_ ⟨_, rfl, (by cases b <;> rfl), Below.refl _ _, hG⟩
                simp [slotOf] at h60 h61
                simp [execOp, go_sem, h60, h61, hil]
              · intro b a W hG hO hp
                have h62 : slotOf a 62 = .pointer (some ⟨wg, i, none⟩) := by cases b <;> exact hp.1
                have c0 := keep_cell k0 hG
                refine wp_yields (v := .int .i64 kv) ?_ ⟨_, rfl, (by cases b <;> rfl), Below.refl _ _, hG⟩
                simp [slotOf] at h62
                simp [execOp, go_sem, h62, c0]
              · intro a W hG hO hp
                have h63 : slotOf a 63 = .int .i64 kv := hp.1
                refine wp_makes (v := .slice (some ⟨W.heap.size, 0, none⟩) 1 1) (W' := W.alloc (.cells #[vi kv] 3)) ?_ ⟨_, rfl, ⟨_, rfl, hG.size, Whole.made _ _ _⟩, newer_allocH _ _, below_next hG (newer_allocH _ _)⟩
                simp [slotOf] at h63
                simp [execOp, go_sem, h63]
              · intro a W hG hO hp
                have h59 := hp.1
                have h64 := hp.2.1
                obtain ⟨A, c, h59, ho⟩ := h59
                obtain ⟨nb, h64, hnb, hW⟩ := h64
                obtain ⟨hi0, hz0, hz1, hz2⟩ := HI.out
                refine wp_append_all (enc := intL) (size := 1) (wr.heap.size) (.tmp 59) (.tmp 64) 24 3 i0 (.int .i64 0) 8 Try.underlying24 hi0 hz0 hz1 hz2 rfl (by omega) (fun _ => rfl) intL_oneN rfl A b0.length c (b0.flatMap intL) ((eval_slot a 59).trans h59) ho [kv] (some ⟨nb, 0, none⟩) 1 ((eval_slot a 64).trans h64) (row_of_whole (enc := intL) (s := 1) (fun _ => rfl) hW rfl) (by have := HBL.out; unfold maxLen; simp only [List.length_singleton]; omega) (by have := HBL.out; simp only [List.length_singleton]; omega) hG.size ?_
                intro B c' w2 hown hgr hat
                exact ⟨_, rfl, ⟨B, c', rfl, hown⟩, below_row hG ho hgr (Nat.le_refl _), fun j hj u hD => by
                  match j, hj, hD with
                  | 0, _, hD =>
                    exact hD
                  | 1, _, hD =>
                    exact hD
                  | 2, _, hD =>
                    exact hD
                  | 3, _, hD =>
                    exact hD
                  | 4, _, hD =>
                    exact hD
                  | 5, _, _ => trivial
                  | 6, _, hD =>
                    exact hD
                  | 7, _, _ => trivial
                  | 8, _, hD =>
                    exact hD
                  | 9, _, hD =>
                    exact hD
                  | 10, _, hD =>
                    exact hD
                  | 11, _, hD =>
                    exact hD
                  | 12, _, _ => trivial
                  | 13, hj, _ => exact absurd rfl hj
                  | 14, _, hD =>
                    exact hD.elim
                  | (_ + 15), _, hD => exact hD⟩
              · intro b a W hG hO hp
                cases b with
                | false => exact (hp.2.2.2.1 : False).elim
                | true =>
                  have h53 : slotOf a 53 = smV y := hp.1
                  have h54 : slotOf a 54 = .slice (some ⟨fb, fo, none⟩) f.length fc := hp.2.1
                  have h56 : slotOf a 56 = .int .i64 tj := hp.2.2.1
                  have h65 := hp.2.2.2.1
                  obtain ⟨B, c', h65, ho⟩ := h65
                  refine wp_enters (f := 70) (args := #[smV y, .slice (some ⟨fb, fo, none⟩) f.length fc, vi tj, .slice B (b0.length + 1) c']) ?_ ((HIH.out kv B c' W (newer_trans HJ.out.2.2.1 hG) (rowi_snoc ho)).mono ?_)
                  · simp [slotOf] at h53 h54 h56 h65
                    simp [go_sem, h53, h54, h56, h65]
                  · rintro e w' ⟨⟨vs, A2, c2, rfl, hrv, hvi, hve⟩, hb⟩
                    exact ⟨_, rfl, _, rfl, ⟨vs, A2, c2, rfl, hrv, hvi.low hG.size, hve⟩, hb, below_next hG hb⟩
            · intro w5 hG
              rintro _ rfl _ rfl _ rfl _ rfl _ rfl _ - _ rfl _ - _ rfl _ rfl _ rfl _ rfl _ - _ - _ ⟨vs, A2, c2, rfl, hrv, hvi, hve⟩
              change wpList _ _ _ _ _ _
              simp only [Act.put, List.setIfInBounds_toArray, List.set_cons_zero, List.set_cons_succ, List.drop_succ_cons, List.drop_zero]
              have HR2 := Lib.hid (And.intro hrv (And.intro hvi hve))
              have HJ2 := Lib.hid (And.intro (HJ.out.1.next hG) (And.intro (newer_trans HJ.out.2.1 hG) hG.size))
              have HFB := Lib.hid (show us.length ≤ 27027009001 ∧ vs.length ≤ 9006001 from ⟨by have h1 := congrArg List.length HJ.out.1.eq; rw [List.length_map] at h1; rw [h1]; exact HLB.out _, by have h1 := congrArg List.length hve; rw [List.length_map, ← HGE.out] at h1; rw [h1]; exact HGL.out kv⟩)
              have HFR : Hid (∀ x ∈ vs, ∀ ad, x.a = some ad → (Value.slice A us.length c).ownBlock ≠ some ad.block) := Lib.hid (fun x hx ad had e => by
                have h1 := own_lt HJ.out.1.own _ e
                have h2 := hvi.hi x hx ad had
                omega)
              have HSZ5 := Lib.hid (show w2.heap.size ≤ w5.heap.size from Nat.le_trans HJ.out.2.1.size hG.size)
              clear hrv hvi hve hG x0 x1 x2 x3 x4 k0
              go_wp2_with (at_builtin; go_loud ((refine wpList_plain rfl fun _ hK => wp_append_all (enc := lnL) (size := 1) w2.heap.size (.tmp 52) (.tmp 66) 33 24 i1 (.slice none 0 0) 24 Try.underlying33 HI1.out.1 HI1.out.2.1 HI1.out.2.2.1 HI1.out.2.2.2 rfl (by omega) (fun _ => rfl) lnL_oneN rfl A us.length c (us.flatMap lnL) rfl HJ2.out.1.own vs A2 c2 rfl HR2.out.1 (by have := HFB.out; unfold maxLen; omega) (by have := HFB.out; omega) HSZ5.out fun B c3 w6 hown hgr hat => hK _ _ ?_); have HE := Lib.hid (And.intro (HJ2.out.1.app (HR2.out.2.1.low HJ.out.2.1.size) HFR.out hown hgr hat) (HJ2.out.1.new (w := w2) (Nat.le_refl _) HJ2.out.2.1 hgr)); clear hown hgr hat))
              go_roundw
              case rel =>
                refine ⟨i + 1, us ++ vs, B, c3, hlt, by rw [List.length_append], by go_num, ?_, HE.out.2⟩
                have h1 := HE.out.1
                rw [HR2.out.2.2, ← HGE.out] at h1
                rw [List.take_add_one, HKV.out, List.flatMap_append]
                simpa using h1
              case measure => simp [intOf]; omega
          · obtain rfl : i = L.length := by omega
            have hil : ¬ (L.length : Int) < L.length := by omega
            have HZ := HJ.out.1.out (H := w.heap.size) (Nat.le_of_lt HW2.out.2.2.2)
            rw [List.take_length, ← HTG.out] at HZ
            clear hj hn2 hnw hx
            go_wp2_with fail
            go_ret
            obtain ⟨xs, A', c', h1, h2, h3, h4⟩ := HZ
            refine ⟨?_, HJ.out.2.2.1⟩
            first | exact ⟨xs, A', c', congrArg Ending.returned h1, h2, h3, h4⟩ | exact ⟨xs, A', ⟨c', congrArg Ending.returned h1⟩, h2, h3, h4⟩
theorem listsR_any (y : Sm) (f : List Mv) (hs : SdOk y.s) (h3 : y.s.tools.length ≤ 3) (hfl : f.length = y.s.spots.length) (hbd : ∀ m ∈ f, (-30 ≤ m.1 ∧ m.1 ≤ 30) ∧ -30 ≤ m.2 ∧ m.2 ≤ 30) : ∀ r, ListsAt y f r
  | 0 => lists_zero y f (by omega)
  | r + 1 => lists_step y f hs h3 hfl hbd r (listsR_any y f hs h3 hfl hbd r)

end Go.Proofs.Ytpmafnifgegfbaa
