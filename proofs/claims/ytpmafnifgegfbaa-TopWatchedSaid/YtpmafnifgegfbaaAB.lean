/- What is known of each spot. -/
import Derived.Test.YtpmafnifgegfbaaAA
namespace Go.Proofs.Ytpmafnifgegfbaa
open Go.RowKit Go.Shelf Go.Deep

/-- What is known of all spots. -/
def knK (s : Sd) (i : Nat) : List Sp := (List.range i).map (learnN s)
def knL (s : Sd) : List Sp := knK s s.spots.length
theorem knK_len (s : Sd) (i : Nat) : (knK s i).length = i := by unfold knK; rw [List.length_map, List.length_range]
theorem knK_succ (s : Sd) (i : Nat) : knK s (i + 1) = knK s i ++ [learnN s i] := by unfold knK; rw [List.range_succ, List.map_append]; rfl
theorem knL_at {s : Sd} {i : Nat} (h : i < s.spots.length) : (knL s)[i]? = some (learnN s i) := by unfold knL knK; rw [List.getElem?_map, List.getElem?_range h]; rfl
theorem info_spot : (Try.prog.info? 56).map (fun i => (i.zero, i.size, i.bytes)) = some (some (.agg #[vi 0, vi 0, vi 0, vi 0]), 4, 32) := by kernel_rfl
theorem spL_one (p : Sp) : ∀ u ∈ spL p, u.oneCell' = true := by
  intro u hu
  simp only [List.mem_cons, List.not_mem_nil, or_false] at hu
  rcases hu with rfl | rfl | rfl | rfl <;> rfl
theorem below_row {w W W' : World} {base : Nat} {e : TypeId} {size n : Nat} {v : Value} {xs : List Value} (h : newer w W) (ho : W.ownsRow base e size v n xs) (hg : W.grownBy W' v.ownBlock) (hb : w.heap.size ≤ base) : newer w W' := by
  rcases Option.eq_none_or_eq_some v.ownBlock with e1 | ⟨q, e1⟩
  · rw [e1] at hg
    exact newer_trans h (below_grown hg (fun q hq => by cases hq) (Nat.le_refl _))
  · rw [e1] at hg
    exact Below.trans h (below_of_grown hg (Nat.le_trans hb (own_ge ho q e1)) h.size)
theorem learn_is {s : Sd} {don : List Mv} {i : Nat} {ex ey : Int × Int} (hd : ∀ m, m ∈ aliveS s (freeL s) i ↔ m ∈ don) (hn : don ≠ []) (h1 : EndsOf (don.map (·.1)) ex) (h2 : EndsOf (don.map (·.2)) ey) : learnN s i = ⟨⟨ex.1, ex.2⟩, ⟨ey.1, ey.2⟩⟩ := by
  have hne : aliveS s (freeL s) i ≠ [] := by
    cases don with
    | nil => exact absurd rfl hn
    | cons m l => exact List.ne_nil_of_mem ((hd m).2 (List.mem_cons_self ..))
  have hm : ∀ (p : Mv → Int) (x : Int), x ∈ (aliveS s (freeL s) i).map p ↔ x ∈ don.map p := fun p x => by
    rw [List.mem_map, List.mem_map]
    exact ⟨fun ⟨m, a, b⟩ => ⟨m, (hd m).1 a, b⟩, fun ⟨m, a, b⟩ => ⟨m, (hd m).2 a, b⟩⟩
  have e1 := (ends_of (l := (aliveS s (freeL s) i).map (·.1)) (by simpa using hne)).uniq h1 (hm _)
  have e2 := (ends_of (l := (aliveS s (freeL s) i).map (·.2)) (by simpa using hne)).uniq h2 (hm _)
  unfold learnN
  rw [e1, e2]
set_option maxRecDepth 100000 in
set_option maxHeartbeats 2000000 in
theorem learn_err (y : Sm) (w : World) (hok : SmOk y w) (few : SmFew y) (he : errN y.s ≠ 0) : Calls Try.prog 26 #[smV y] w fun e w' => e = .returned (.tuple #[.slice none 0 0, vi (errN y.s)]) ∧ newer w w' := by
  have hnw := newer_allocH w (.cells (smC y) 40)
  have HC := Lib.hid (check_any y _ (hok.next hnw) few)
  have HN := Lib.hid hnw
  have HOK := Lib.hid hok
  have x0 := (Whole.made w 40 (smC y)).at 0 (v := .slice y.sa y.s.spots.length y.sc) rfl
  have x1 := (Whole.made w 40 (smC y)).at 1 (v := vi y.s.strain) rfl
  have x2 := (Whole.made w 40 (smC y)).at 2 (v := .slice y.ta y.s.tools.length y.tc) rfl
  have x3 := (Whole.made w 40 (smC y)).at 3 (v := vi y.s.day) rfl
  have x4 := (Whole.made w 40 (smC y)).at 4 (v := .slice y.ra y.s.reads.length y.rc) rfl
  have hbx := Whole.made w 40 (smC y)
  have HBX := Lib.hid hbx
  clear hnw hok few hbx
  obtain ⟨p, hp⟩ : ∃ q, q = errN y.s := ⟨_, rfl⟩
  rw [← hp] at HC he ⊢
  clear hp
  go_enter Try.func26, Try.ntmps26
  go_wp2_with fail
  refine (HC.out).mono ?_
  rintro e w1 ⟨rfl, hb⟩
  have HE := Lib.hid (newer_trans HN.out hb)
  clear hb HC x0 x1 x2 x3 x4
  go_wp2_with fail
  go_ret2
  exact ⟨rfl, HE.out⟩
set_option maxRecDepth 100000 in
set_option maxHeartbeats 2000000 in
theorem learn_bad (y : Sm) (w : World) (hok : SmOk y w) (few : SmFew y) (he : errN y.s = 0) (ho : okS y.s (freeL y.s) = false) : Calls Try.prog 26 #[smV y] w fun e w' => e = .returned (.tuple #[.slice none 0 0, vi 9]) ∧ newer w w' := by
  have hnw := newer_allocH w (.cells (smC y) 40)
  have HC := Lib.hid (check_any y _ (hok.next hnw) few)
  have HN := Lib.hid hnw
  have HOK := Lib.hid hok
  have x0 := (Whole.made w 40 (smC y)).at 0 (v := .slice y.sa y.s.spots.length y.sc) rfl
  have x1 := (Whole.made w 40 (smC y)).at 1 (v := vi y.s.strain) rfl
  have x2 := (Whole.made w 40 (smC y)).at 2 (v := .slice y.ta y.s.tools.length y.tc) rfl
  have x3 := (Whole.made w 40 (smC y)).at 3 (v := vi y.s.day) rfl
  have x4 := (Whole.made w 40 (smC y)).at 4 (v := .slice y.ra y.s.reads.length y.rc) rfl
  have hbx := Whole.made w 40 (smC y)
  have HBX := Lib.hid hbx
  clear hnw hok few hbx
  rw [he] at HC
  have HS := Lib.hid (err_iff.1 he)
  clear he
  have HO := Lib.hid ho
  clear ho
  go_enter Try.func26, Try.ntmps26
  go_wp2_with fail
  refine (HC.out).mono ?_
  rintro e w1 ⟨rfl, hb⟩
  have hx1 := HBX.out.below hb HBX.out.lt
  clear x0 x1 x2 x3 x4
  have x0 := hx1.at 0 (v := .slice y.sa y.s.spots.length y.sc) rfl
  have x1 := hx1.at 1 (v := vi y.s.strain) rfl
  have x2 := hx1.at 2 (v := .slice y.ta y.s.tools.length y.tc) rfl
  have x3 := hx1.at 3 (v := vi y.s.day) rfl
  have x4 := hx1.at 4 (v := .slice y.ra y.s.reads.length y.rc) rfl
  have HE := Lib.hid (newer_trans HN.out hb)
  have HOP := Lib.hid (fun W => open_any y W HS.out.few)
  have HAT := Lib.hid (fun B c W (hG : newer w1 W) (hr : Row koL 1 W W.heap.size B (freeL y.s)) => at_any y (freeL y.s) B c W (HOK.out.next (newer_trans HE.out hG)) HS.out hr (free_len y.s) (fun o ho k hk => by
    have := List.eq_of_mem_replicate ho
    rw [this] at hk
    cases hk))
  clear hb HC hx1
  go_wp2_with fail
  refine wp_words (by kernel_rfl) (region_told 8 (by kernel_rfl) (by kernel_rfl) (fun W => Below w1.heap.size w1 W) newer (pickD [vIs (smV y), vIs (smV y), vRowO (freeL y.s), vAtO y (freeL y.s) w1.heap.size, vAtO y (freeL y.s) w1.heap.size, vLookO y (freeL y.s) w1.heap.size, vIs (.bool (okS y.s (freeL y.s))), vLookO y (freeL y.s) w1.heap.size]) (fun h k => newer_trans h k) (pickD_stable _ ⟨vIs_st, vIs_st, vRowO_st, vAtO_st, vAtO_st, vLookO_st, vIs_st, vLookO_st, trivial⟩) (Below.refl _ w1).drew (Below.refl _ _) ?_ ?_)
  · refine ⟨?_, ?_, ?_, ?_, ?_, ?_, ?_, ?_, trivial⟩
    · intro a W hG hR hO hp
      have h1 := hO.slot 1 (by kernel_rfl)
      have c0 := keep_cell x0 hG
      have c1 := keep_cell x1 hG
      have c2 := keep_cell x2 hG
      have c3 := keep_cell x3 hG
      have c4 := keep_cell x4 hG
      refine kY (v := smV y) hG rfl ?_
      simp [slotOf] at h1
      simp [execOp, go_sem, h1, c0, c1, c2, c3, c4]
    · intro a W hG hR hO hp
      have h1 := hO.slot 1 (by kernel_rfl)
      have c0 := keep_cell x0 hG
      have c1 := keep_cell x1 hG
      have c2 := keep_cell x2 hG
      have c3 := keep_cell x3 hG
      have c4 := keep_cell x4 hG
      refine kY (v := smV y) hG rfl ?_
      simp [slotOf] at h1
      simp [execOp, go_sem, h1, c0, c1, c2, c3, c4]
    · intro a W hG hR hO hp
      have h21 : slotOf a 21 = smV y := hp.1
      refine wp_enters (f := 62) (args := #[smV y]) ?_ ((HOP.out W).mono ?_)
      · simp [slotOf] at h21
        simp [go_sem, h21]
      · rintro e w' ⟨q, rfl, h1, h2, h3⟩
        exact ⟨_, rfl, _, rfl, ⟨_, _, rfl, row_of_whole (enc := koL) (s := 1) (fun _ => rfl) h1 (free_cells y.s)⟩, h3, below_next hG h3⟩
    · intro a W hG hR hO hp
      have h20 : slotOf a 20 = smV y := hp.1
      have h22 := hp.2.1
      obtain ⟨B, c, h22, hrow⟩ := h22
      refine wp_enters (f := 61) (args := #[smV y, .slice B (freeL y.s).length c]) ?_ ((HAT.out B c W hG hrow).mono ?_)
      · simp [slotOf] at h20 h22
        simp [go_sem, h20, h22]
      · rintro e w' ⟨lb, rfl, h1, h2⟩
        exact ⟨_, rfl, _, rfl, ⟨lb, rfl, fun ho => let ⟨ms, A, c, h3⟩ := h2 ho; ⟨ms, A, c, h3.low hG.size⟩⟩, h1, below_next hG h1⟩
    · intro a W hG hR hO hp
      have h23 := hp.1
      obtain ⟨lb, h23, hl⟩ := h23
      refine wp_yields (v := .tuple #[ptV lb, .bool (okS y.s (freeL y.s))]) ?_ ⟨_, rfl, ⟨lb, rfl, hl⟩, Below.refl _ _, hG⟩
      simp [slotOf] at h23
      simp [execOp, go_sem, h23]
    · intro a W hG hR hO hp
      have h19 := hp.1
      obtain ⟨lb, h19, hl⟩ := h19
      refine wp_yields (v := ptV lb) ?_ ⟨_, rfl, ⟨lb, rfl, hl⟩, Below.refl _ _, hG⟩
      simp [slotOf] at h19
      simp [execOp, go_sem, h19]
    · intro a W hG hR hO hp
      have h19 := hp.1
      obtain ⟨lb, h19, hl⟩ := h19
      refine wp_yields (v := .bool (okS y.s (freeL y.s))) ?_ ⟨_, rfl, rfl, Below.refl _ _, hG⟩
      simp [slotOf] at h19
      simp [execOp, go_sem, h19]
    · intro a W hG hR hO hp
      have h24 := hp.1
      obtain ⟨lb, h24, hl⟩ := h24
      refine wp_yields (v := ptV lb) ?_ ⟨_, rfl, ⟨lb, rfl, hl⟩, Below.refl _ _, hG⟩
      simp [slotOf] at h24
      simp [execOp, go_sem, h24]
  · intro w2 hG hR
    rintro _ rfl _ rfl _ - _ - _ - _ ⟨xq, rfl, -⟩ _ rfl _ ⟨xb, rfl, hlk⟩
    change wpList _ _ _ _ _ _
    simp only [Act.put, List.setIfInBounds_toArray, List.set_cons_zero, List.set_cons_succ, List.drop_succ_cons, List.drop_zero]
    have HN2 := Lib.hid (newer_trans HE.out hG)
    have HLK := Lib.hid hlk
    have HG := Lib.hid hG
    clear hG hR hlk HOP HAT x0 x1 x2 x3 x4
    rw [HO.out]
    go_wp2_with fail
    go_ret2
    exact ⟨rfl, HN2.out⟩
set_option maxRecDepth 100000 in
set_option maxHeartbeats 2000000 in
theorem learn_ok (y : Sm) (w : World) (hok : SmOk y w) (few : SmFew y) (he : errN y.s = 0) (ho : okS y.s (freeL y.s) = true) : Calls Try.prog 26 #[smV y] w fun e w' => ∃ B d, e = .returned (.tuple #[.slice B (knL y.s).length d, vi 0]) ∧ w'.ownsRow w.heap.size 56 4 (.slice B (knL y.s).length d) (knL y.s).length ((knL y.s).flatMap spL) ∧ newer w w' := by
  have hnw := newer_allocH w (.cells (smC y) 40)
  have HC := Lib.hid (check_any y _ (hok.next hnw) few)
  have HN := Lib.hid hnw
  have HOK := Lib.hid hok
  have x0 := (Whole.made w 40 (smC y)).at 0 (v := .slice y.sa y.s.spots.length y.sc) rfl
  have x1 := (Whole.made w 40 (smC y)).at 1 (v := vi y.s.strain) rfl
  have x2 := (Whole.made w 40 (smC y)).at 2 (v := .slice y.ta y.s.tools.length y.tc) rfl
  have x3 := (Whole.made w 40 (smC y)).at 3 (v := vi y.s.day) rfl
  have x4 := (Whole.made w 40 (smC y)).at 4 (v := .slice y.ra y.s.reads.length y.rc) rfl
  have hbx := Whole.made w 40 (smC y)
  have HBX := Lib.hid hbx
  clear hnw hok few hbx
  rw [he] at HC
  have HS := Lib.hid (err_iff.1 he)
  clear he
  have HO := Lib.hid ho
  clear ho
  go_enter Try.func26, Try.ntmps26
  go_wp2_with fail
  refine (HC.out).mono ?_
  rintro e w1 ⟨rfl, hb⟩
  have hx1 := HBX.out.below hb HBX.out.lt
  clear x0 x1 x2 x3 x4
  have x0 := hx1.at 0 (v := .slice y.sa y.s.spots.length y.sc) rfl
  have x1 := hx1.at 1 (v := vi y.s.strain) rfl
  have x2 := hx1.at 2 (v := .slice y.ta y.s.tools.length y.tc) rfl
  have x3 := hx1.at 3 (v := vi y.s.day) rfl
  have x4 := hx1.at 4 (v := .slice y.ra y.s.reads.length y.rc) rfl
  have HE := Lib.hid (newer_trans HN.out hb)
  have HOP := Lib.hid (fun W => open_any y W HS.out.few)
  have HAT := Lib.hid (fun B c W (hG : newer w1 W) (hr : Row koL 1 W W.heap.size B (freeL y.s)) => at_any y (freeL y.s) B c W (HOK.out.next (newer_trans HE.out hG)) HS.out hr (free_len y.s) (fun o ho k hk => by
    have := List.eq_of_mem_replicate ho
    rw [this] at hk
    cases hk))
  clear hb HC hx1
  go_wp2_with fail
  refine wp_words (by kernel_rfl) (region_told 8 (by kernel_rfl) (by kernel_rfl) (fun W => Below w1.heap.size w1 W) newer (pickD [vIs (smV y), vIs (smV y), vRowO (freeL y.s), vAtO y (freeL y.s) w1.heap.size, vAtO y (freeL y.s) w1.heap.size, vLookO y (freeL y.s) w1.heap.size, vIs (.bool (okS y.s (freeL y.s))), vLookO y (freeL y.s) w1.heap.size]) (fun h k => newer_trans h k) (pickD_stable _ ⟨vIs_st, vIs_st, vRowO_st, vAtO_st, vAtO_st, vLookO_st, vIs_st, vLookO_st, trivial⟩) (Below.refl _ w1).drew (Below.refl _ _) ?_ ?_)
  · refine ⟨?_, ?_, ?_, ?_, ?_, ?_, ?_, ?_, trivial⟩
    · intro a W hG hR hO hp
      have h1 := hO.slot 1 (by kernel_rfl)
      have c0 := keep_cell x0 hG
      have c1 := keep_cell x1 hG
      have c2 := keep_cell x2 hG
      have c3 := keep_cell x3 hG
      have c4 := keep_cell x4 hG
      refine kY (v := smV y) hG rfl ?_
      simp [slotOf] at h1
      simp [execOp, go_sem, h1, c0, c1, c2, c3, c4]
    · intro a W hG hR hO hp
      have h1 := hO.slot 1 (by kernel_rfl)
      have c0 := keep_cell x0 hG
      have c1 := keep_cell x1 hG
      have c2 := keep_cell x2 hG
      have c3 := keep_cell x3 hG
      have c4 := keep_cell x4 hG
      refine kY (v := smV y) hG rfl ?_
      simp [slotOf] at h1
      simp [execOp, go_sem, h1, c0, c1, c2, c3, c4]
    · intro a W hG hR hO hp
      have h21 : slotOf a 21 = smV y := hp.1
      refine wp_enters (f := 62) (args := #[smV y]) ?_ ((HOP.out W).mono ?_)
      · simp [slotOf] at h21
        simp [go_sem, h21]
      · rintro e w' ⟨q, rfl, h1, h2, h3⟩
        exact ⟨_, rfl, _, rfl, ⟨_, _, rfl, row_of_whole (enc := koL) (s := 1) (fun _ => rfl) h1 (free_cells y.s)⟩, h3, below_next hG h3⟩
    · intro a W hG hR hO hp
      have h20 : slotOf a 20 = smV y := hp.1
      have h22 := hp.2.1
      obtain ⟨B, c, h22, hrow⟩ := h22
      refine wp_enters (f := 61) (args := #[smV y, .slice B (freeL y.s).length c]) ?_ ((HAT.out B c W hG hrow).mono ?_)
      · simp [slotOf] at h20 h22
        simp [go_sem, h20, h22]
      · rintro e w' ⟨lb, rfl, h1, h2⟩
        exact ⟨_, rfl, _, rfl, ⟨lb, rfl, fun ho => let ⟨ms, A, c, h3⟩ := h2 ho; ⟨ms, A, c, h3.low hG.size⟩⟩, h1, below_next hG h1⟩
    · intro a W hG hR hO hp
      have h23 := hp.1
      obtain ⟨lb, h23, hl⟩ := h23
      refine wp_yields (v := .tuple #[ptV lb, .bool (okS y.s (freeL y.s))]) ?_ ⟨_, rfl, ⟨lb, rfl, hl⟩, Below.refl _ _, hG⟩
      simp [slotOf] at h23
      simp [execOp, go_sem, h23]
    · intro a W hG hR hO hp
      have h19 := hp.1
      obtain ⟨lb, h19, hl⟩ := h19
      refine wp_yields (v := ptV lb) ?_ ⟨_, rfl, ⟨lb, rfl, hl⟩, Below.refl _ _, hG⟩
      simp [slotOf] at h19
      simp [execOp, go_sem, h19]
    · intro a W hG hR hO hp
      have h19 := hp.1
      obtain ⟨lb, h19, hl⟩ := h19
      refine wp_yields (v := .bool (okS y.s (freeL y.s))) ?_ ⟨_, rfl, rfl, Below.refl _ _, hG⟩
      simp [slotOf] at h19
      simp [execOp, go_sem, h19]
    · intro a W hG hR hO hp
      have h24 := hp.1
      obtain ⟨lb, h24, hl⟩ := h24
      refine wp_yields (v := ptV lb) ?_ ⟨_, rfl, ⟨lb, rfl, hl⟩, Below.refl _ _, hG⟩
      simp [slotOf] at h24
      simp [execOp, go_sem, h24]
  · intro w2 hG hR
    rintro _ rfl _ rfl _ - _ - _ - _ ⟨xq, rfl, -⟩ _ rfl _ ⟨xb, rfl, hlk⟩
    change wpList _ _ _ _ _ _
    simp only [Act.put, List.setIfInBounds_toArray, List.set_cons_zero, List.set_cons_succ, List.drop_succ_cons, List.drop_zero]
    have HN2 := Lib.hid (newer_trans HE.out hG)
    have HLK := Lib.hid hlk
    have HG := Lib.hid hG
    clear hG hR hlk HOP HAT x0 x1 x2 x3 x4
    rw [HO.out]
    obtain ⟨ms, A, c, hlk⟩ := HLK.out HO.out
    obtain ⟨ka, nk, kc, hlw⟩ := hlk.lk
    have hn6 := HS.out.spots
    obtain ⟨m0, hm0⟩ : ∃ q, ms[0]? = some q := ⟨_, List.getElem?_eq_getElem (by have := hlk.ln; omega)⟩
    obtain ⟨ab, ao, ea, -, -⟩ := rowM hlk.row hm0
    obtain rfl := ea
    have l6 := hlw.at 6 (v := .slice (some ⟨ab, ao, none⟩) y.s.spots.length c) rfl
    have HL := Lib.hid hlk
    clear hm0 m0
    obtain ⟨i0, hi0, hz0, hz1, hz2⟩ := info_parts info_spot
    have HI := Lib.hid (And.intro hi0 (And.intro hz0 (And.intro hz1 hz2)))
    clear hlk hlw hi0 hz0 hz1 hz2
    go_wp2_with fail
    clear l6
    go_loopw [7, 9, 10, 11, 12, 13, 33] (fun s7 _ _ _ _ _ s33 wr => ∃ (i : Nat) (B : Option Addr) (d : Nat), i ≤ y.s.spots.length ∧ s33 = vi i ∧ s7 = .slice B i d ∧ wr.ownsRow w2.heap.size 56 4 (.slice B i d) i ((knK y.s i).flatMap spL) ∧ newer w2 wr) (fun _ _ _ _ _ _ s33 _ => y.s.spots.length - (intOf s33).toNat)
    case atStart => exact ⟨0, none, 0, Nat.zero_le _, rfl, rfl, ⟨rfl, .inl ⟨rfl, rfl⟩⟩, Below.refl _ _⟩
    case round =>
      obtain ⟨i, B, d, hi, rfl, rfl, hown, hnw⟩ := hrel
      by_cases hlt : i < y.s.spots.length
      case neg =>
        obtain rfl : i = y.s.spots.length := by omega
        have HE3 := Lib.hid (And.intro hown hnw)
        clear hown hnw
        go_wp2_with fail
        go_ret2
        refine ⟨B, d, by rw [show (knL y.s).length = y.s.spots.length from knK_len _ _]; rfl, ?_, newer_trans HN2.out HE3.out.2⟩
        rw [show (knL y.s).length = y.s.spots.length from knK_len _ _]
        exact own_more HE3.out.1 HN2.out.size
      case pos =>
        obtain ⟨mi, hmi⟩ : ∃ q, ms[i]? = some q := ⟨_, List.getElem?_eq_getElem (by have := HL.out.ln; omega)⟩
        have hlr := HL.out.next hnw
        have a0 := rowM2 hlr.row rfl hmi
        have HKM := Lib.hid (hlr.mp i mi hmi)
        have n1 := newer_trans (newer_allocH wr (.cells #[vi 0, vi 0] 130)) (newer_allocH (wr.alloc (.cells #[vi 0, vi 0] 130)) (.cells #[vi 0, vi 0] 130))
        have HX := Lib.hid (show newer wr ((wr.alloc (.cells #[vi 0, vi 0] 130)).alloc (.cells #[vi 0, vi 0] 130)) ∧ Whole ((wr.alloc (.cells #[vi 0, vi 0] 130)).alloc (.cells #[vi 0, vi 0] 130)) wr.heap.size 130 #[vi 0, vi 0] ∧ Whole ((wr.alloc (.cells #[vi 0, vi 0] 130)).alloc (.cells #[vi 0, vi 0] 130)) (wr.heap.size + 1) 130 #[vi 0, vi 0] ∧ KMap mvV trV mi (kvL (aliveS y.s (freeL y.s) i)) ((wr.alloc (.cells #[vi 0, vi 0] 130)).alloc (.cells #[vi 0, vi 0] 130)) from by
          have m2 := Whole.made (wr.alloc (.cells #[vi 0, vi 0] 130)) 130 #[vi 0, vi 0]
          rw [World.size_alloc] at m2
          exact ⟨n1, (Whole.made wr 130 #[vi 0, vi 0]).alloc _, m2, HKM.out.next n1⟩)
        have HRW := Lib.hid (And.intro hown hnw)
        clear n1 hlr hmi HKM hown hnw
        go_upto_region 13 with fail
        clear a0
        obtain ⟨b10, hb10⟩ : ∃ q, q = wr.heap.size := ⟨_, rfl⟩
        rw [← hb10] at HX
        rw [← hb10]
        obtain ⟨b11, hb11⟩ : ∃ q, q = b10 + 1 := ⟨_, rfl⟩
        rw [← hb11] at HX
        rw [← hb11]
        have HBB := Lib.hid (show b11 = b10 + 1 ∧ wr.heap.size = b10 by omega)
        refine genQ (fun X => newer wr X ∧ Whole X b10 130 #[vi 0, vi 0] ∧ Whole X b11 130 #[vi 0, vi 0] ∧ KMap mvV trV mi (kvL (aliveS y.s (freeL y.s) i)) X) HX.out ?_
        clear HX hb10 hb11
        rintro w4 ⟨g1, g2, g3, g4⟩
        have H4 := Lib.hid (And.intro g1 (And.intro g2 (And.intro g3 g4)))
        clear g1 g2 g3 g4
        obtain ⟨wo, hwo⟩ : ∃ wo : World, wo = wr := ⟨_, rfl⟩
        rw [← hwo] at H4 HRW HBB
        clear hwo
        go_wp2_with (at_range; refine wpList_range_s _ rfl _ 128 rfl Try.underlying128 mi (kvL (aliveS y.s (freeL y.s) i)) rfl H4.out.2.2.2 ?_; intro w5 hn5 hit5)
        obtain ⟨ib, hib⟩ : ∃ q, q = w4.heap.size := ⟨_, rfl⟩
        rw [← hib] at hit5 ⊢
        rw [kv_keys] at hit5
        have H5 := Lib.hid (show newer wo w5 ∧ Whole w5 b10 130 #[vi 0, vi 0] ∧ Whole w5 b11 130 #[vi 0, vi 0] ∧ KIter mvV trV mi (kvL (aliveS y.s (freeL y.s) i)) ib (aliveS y.s (freeL y.s) i) w5 from ⟨newer_trans H4.out.1 hn5, H4.out.2.1.below hn5 H4.out.2.1.lt, H4.out.2.2.1.below hn5 H4.out.2.2.1.lt, hit5⟩)
        have HIB := Lib.hid (show b10 < ib ∧ b11 < ib by have h1 := H4.out.2.1.lt; have h2 := H4.out.2.2.1.lt; omega)
        clear hn5 hit5 hib H4
        try go_frame
        go_loopw [12, 13] (fun s12 _ wr => ∃ (rem don : List Mv) (ex ey : Int × Int) (first : Bool), s12 = .bool first ∧ newer wo wr ∧ Whole wr b10 130 #[vi ex.1, vi ex.2] ∧ Whole wr b11 130 #[vi ey.1, vi ey.2] ∧ KIter mvV trV mi (kvL (aliveS y.s (freeL y.s) i)) ib rem wr ∧ (∀ m, m ∈ aliveS y.s (freeL y.s) i ↔ m ∈ don ∨ m ∈ rem) ∧ (first = true → don = []) ∧ (first = false → EndsOf (don.map (·.1)) ex ∧ EndsOf (don.map (·.2)) ey)) (fun _ _ wr => itLeft ib wr)
        case atStart => exact ⟨aliveS y.s (freeL y.s) i, [], (0, 0), (0, 0), true, rfl, H5.out.1, H5.out.2.1, H5.out.2.2.1, H5.out.2.2.2, fun m => by simp, fun _ => rfl, fun h => by cases h⟩
        case round =>
          obtain ⟨rem, don, ex, ey, first, rfl, hnw, hw10, hw11, hit, hmm, hfi, hen⟩ := hrel
          have HIT := Lib.hid hit
          have HF := Lib.hid (And.intro hnw (And.intro hw10 (And.intro hw11 (And.intro hmm (And.intro hfi hen)))))
          have u0 := hw10.at 0 (v := vi ex.1) rfl
          have u1 := hw10.at 1 (v := vi ex.2) rfl
          have v0 := hw11.at 0 (v := vi ey.1) rfl
          have v1 := hw11.at 1 (v := vi ey.2) rfl
          clear hnw hw10 hw11 hit hmm hfi hen H5
          have HI6 := Lib.hid (show i < 6 by omega)
          have HAP : Hid ((wr.alloc (.cells #[vi ex.1, vi ex.2, vi ey.1, vi ey.2] 56)).ownsRow w2.heap.size 56 4 (.slice B i d) i ((knK y.s i).flatMap spL) ∧ Row spL 4 (wr.alloc (.cells #[vi ex.1, vi ex.2, vi ey.1, vi ey.2] 56)) (wr.alloc (.cells #[vi ex.1, vi ex.2, vi ey.1, vi ey.2] 56)).heap.size (some ⟨wr.heap.size, 0, none⟩) [⟨⟨ex.1, ex.2⟩, ⟨ey.1, ey.2⟩⟩] ∧ w2.heap.size ≤ (wr.alloc (.cells #[vi ex.1, vi ex.2, vi ey.1, vi ey.2] 56)).heap.size ∧ newer w2 (wr.alloc (.cells #[vi ex.1, vi ex.2, vi ey.1, vi ey.2] 56))) := Lib.hid (by
            have n1 := newer_allocH wr (.cells #[vi ex.1, vi ex.2, vi ey.1, vi ey.2] 56)
            have n2 := newer_trans HF.out.1 n1
            have n3 := newer_trans HRW.out.2 n2
            exact ⟨own_below HRW.out.1 n2, row_of_whole (enc := spL) (s := 4) (fun _ => rfl) (Whole.made wr 56 _) rfl, n3.size, n3⟩)
          go_wp2_with (first | (at_next; refine wpList_next_s _ rfl _ rfl mi ib (kvL (aliveS y.s (freeL y.s) i)) rem rfl HIT.out ?_ ?_; (intro hall; have HALL := Lib.hid hall; clear hall); rotate_left 1; (intro p w6 hp hpr hit6 hbel hsz hoth hen; obtain ⟨⟨ox, oy⟩, _⟩ := p; have HP := Lib.hid (And.intro hp hpr); have HIT6 := Lib.hid hit6; have HBEL := Lib.hid hbel; clear hp hpr hit6 hbel hsz hoth)) | (at_builtin; go_loud ((refine wpList_plain rfl fun _ hK => wp_append_all (enc := spL) (size := 4) w2.heap.size (.tmp 53) (.tmp 65) 37 56 i0 (.agg #[vi 0, vi 0, vi 0, vi 0]) 32 Try.underlying37 HI.out.1 HI.out.2.1 HI.out.2.2.1 HI.out.2.2.2 rfl (by omega) (fun _ => rfl) spL_one rfl B i d ((knK y.s i).flatMap spL) rfl HAP.out.1 [⟨⟨ex.1, ex.2⟩, ⟨ey.1, ey.2⟩⟩] (some ⟨wr.heap.size, 0, none⟩) 1 rfl HAP.out.2.1 (by have := HI6.out; unfold maxLen; simp only [List.length_singleton]; omega) (by have := HI6.out; simp only [List.length_singleton]; omega) HAP.out.2.2.1 fun B2 c2 w5 hown hgr hat => hK _ _ ?_); have HE5 := Lib.hid (And.intro hown (below_row HAP.out.2.2.2 HAP.out.1 hgr (Nat.le_refl _))); clear hown hgr hat)))
          · clear u0 u1 v0 v1
            have h6 := HBEL.out ib (Nat.le_refl _)
            have hn6' : newer wo w6 := HF.out.1.trans (HBEL.out _ (by have := HIB.out; have := HBB.out; omega))
            have hm6 := newer_allocH w6 (.cells #[vi ox, vi oy] 116)
            have HX := Lib.hid (show newer wo (w6.alloc (.cells #[vi ox, vi oy] 116)) ∧ Whole (w6.alloc (.cells #[vi ox, vi oy] 116)) b10 130 #[vi ex.1, vi ex.2] ∧ Whole (w6.alloc (.cells #[vi ox, vi oy] 116)) b11 130 #[vi ey.1, vi ey.2] ∧ Whole (w6.alloc (.cells #[vi ox, vi oy] 116)) w6.heap.size 116 #[vi ox, vi oy] ∧ KIter mvV trV mi (kvL (aliveS y.s (freeL y.s) i)) ib (rem.filter fun k => decide (k ≠ (ox, oy))) (w6.alloc (.cells #[vi ox, vi oy] 116)) from by
              have a1 := HF.out.2.1.below h6 HIB.out.1
              have a2 := HF.out.2.2.1.below h6 HIB.out.2
              exact ⟨newer_trans hn6' hm6, a1.below hm6 a1.lt, a2.below hm6 a2.lt, Whole.made _ _ _, HIT6.out.next hm6⟩)
            obtain ⟨mb, hmb⟩ : ∃ q, q = w6.heap.size := ⟨_, rfl⟩
            rw [← hmb] at HX ⊢
            refine genQ (fun X => newer wo X ∧ Whole X b10 130 #[vi ex.1, vi ex.2] ∧ Whole X b11 130 #[vi ey.1, vi ey.2] ∧ Whole X mb 116 #[vi ox, vi oy] ∧ KIter mvV trV mi (kvL (aliveS y.s (freeL y.s) i)) ib (rem.filter fun k => decide (k ≠ (ox, oy))) X) HX.out ?_
            clear HX hmb hm6 hn6' h6 hen HIT6 HBEL w6
            rintro w7 ⟨g1, g2, g3, g4, g5⟩
            have c0 := g2.at 0 (v := vi ex.1) rfl
            have c1 := g2.at 1 (v := vi ex.2) rfl
            have d0 := g3.at 0 (v := vi ey.1) rfl
            have d1 := g3.at 1 (v := vi ey.2) rfl
            have m0 := g4.at 0 (v := vi ox) rfl
            have m1 := g4.at 1 (v := vi oy) rfl
            have H7 := Lib.hid (And.intro g1 (And.intro g2 (And.intro g3 g5)))
            clear g1 g2 g3 g4 g5
            refine wp_words (by kernel_rfl) (region_told 10 (by kernel_rfl) (by kernel_rfl) (fun W => Below w7.heap.size w7 W) newer (pickD [vIs (prV ex), vIs (.pointer (some ⟨mb, 0, none⟩)), vIs (vi ox), vIs (.bool first), vIs (prV (joinN ex ox first)), vIs (prV ey), vIs (.pointer (some ⟨mb, 1, none⟩)), vIs (vi oy), vIs (.bool first), vIs (prV (joinN ey oy first))]) (fun h k => newer_trans h k) (pickD_stable _ ⟨vIs_st, vIs_st, vIs_st, vIs_st, vIs_st, vIs_st, vIs_st, vIs_st, vIs_st, vIs_st, trivial⟩) (Below.refl _ w7).drew (Below.refl _ _) ?_ ?_)
            · refine ⟨?_, ?_, ?_, ?_, ?_, ?_, ?_, ?_, ?_, ?_, trivial⟩
              · intro a W hG hR hO hp
                have h10 := hO.slot 10 (by kernel_rfl)
                have c0 := keep_cell c0 hG
                have c1 := keep_cell c1 hG
                refine kY (v := prV ex) hG rfl ?_
                simp [slotOf] at h10
                simp [execOp, go_sem, h10, c0, c1]
              · intro a W hG hR hO hp
                have h13 := hO.slot 13 (by kernel_rfl)
                refine kY (v := .pointer (some ⟨mb, 0, none⟩)) hG rfl ?_
                simp [slotOf] at h13
                simp [execOp, go_sem, h13]
              · intro a W hG hR hO hp
                have h44 : slotOf a 44 = .pointer (some ⟨mb, 0, none⟩) := hp.1
                have c0 := keep_cell m0 hG
                refine kY (v := vi ox) hG rfl ?_
                simp [slotOf] at h44
                simp [execOp, go_sem, h44, c0]
              · exact fun a W hG _ hO _ => kM 12 rfl (hO.slot 12 (by kernel_rfl)) rfl hG
              · intro a W hG hR hO hp
                have h43 : slotOf a 43 = prV ex := hp.1
                have h45 : slotOf a 45 = vi ox := hp.2.1
                have h46 : slotOf a 46 = .bool first := hp.2.2.1
                refine wp_enters (f := 63) (args := #[prV ex, vi ox, .bool first]) ?_ ((joined_any ex ox first W).mono ?_)
                · simp [slotOf] at h43 h45 h46
                  simp [go_sem, h43, h45, h46]
                · rintro e w' ⟨rfl, hb⟩
                  exact ⟨_, rfl, _, rfl, rfl, hb, below_next hG hb⟩
              · intro a W hG hR hO hp
                have h11 := hO.slot 11 (by kernel_rfl)
                have c0 := keep_cell d0 hG
                have c1 := keep_cell d1 hG
                refine kY (v := prV ey) hG rfl ?_
                simp [slotOf] at h11
                simp [execOp, go_sem, h11, c0, c1]
              · intro a W hG hR hO hp
                have h13 := hO.slot 13 (by kernel_rfl)
                refine kY (v := .pointer (some ⟨mb, 1, none⟩)) hG rfl ?_
                simp [slotOf] at h13
                simp [execOp, go_sem, h13]
              · intro a W hG hR hO hp
                have h49 : slotOf a 49 = .pointer (some ⟨mb, 1, none⟩) := hp.1
                have c0 := keep_cell m1 hG
                refine kY (v := vi oy) hG rfl ?_
                simp [slotOf] at h49
                simp [execOp, go_sem, h49, c0]
              · exact fun a W hG _ hO _ => kM 12 rfl (hO.slot 12 (by kernel_rfl)) rfl hG
              · intro a W hG hR hO hp
                have h48 : slotOf a 48 = prV ey := hp.1
                have h50 : slotOf a 50 = vi oy := hp.2.1
                have h51 : slotOf a 51 = .bool first := hp.2.2.1
                refine wp_enters (f := 63) (args := #[prV ey, vi oy, .bool first]) ?_ ((joined_any ey oy first W).mono ?_)
                · simp [slotOf] at h48 h50 h51
                  simp [go_sem, h48, h50, h51]
                · rintro e w' ⟨rfl, hb⟩
                  exact ⟨_, rfl, _, rfl, rfl, hb, below_next hG hb⟩
            · intro w8 hG hR
              rintro _ rfl _ rfl _ rfl _ rfl _ rfl _ rfl _ rfl _ rfl _ rfl _ rfl
              change wpList _ _ _ _ _ _
              simp only [Act.put, List.setIfInBounds_toArray, List.set_cons_zero, List.set_cons_succ, List.drop_succ_cons, List.drop_zero]
              have p1 := H7.out.2.1.below hG H7.out.2.1.lt
              have p2 := H7.out.2.2.1.below hG H7.out.2.2.1.lt
              obtain ⟨jx, hjx⟩ : ∃ q, q = joinN ex ox first := ⟨_, rfl⟩
              obtain ⟨jy, hjy⟩ : ∃ q, q = joinN ey oy first := ⟨_, rfl⟩
              rw [← hjx, ← hjy]
              have q1 := p1.set 0 (vi jx.1)
              have q2 := q1.set 1 (vi jx.2)
              have hne : b11 ≠ b10 := by have := HBB.out; omega
              have q3 := (p2.far (p := ⟨b10, 0, none⟩) hne (vi jx.1)).far (p := ⟨b10, 1, none⟩) hne (vi jx.2)
              have q4 := q3.set 0 (vi jy.1)
              have q5 := q4.set 1 (vi jy.2)
              have x0 := p1.at 0 (v := vi ex.1) rfl
              have xf := p1.free 0
              have x1 := q1.at 1 (v := vi ex.2) rfl
              have xg := q1.free 1
              have y0 := q3.at 0 (v := vi ey.1) rfl
              have yf := q3.free 0
              have y1 := q4.at 1 (v := vi ey.2) rfl
              have yg := q4.free 1
              have hge : wo.heap.size ≤ b10 ∧ wo.heap.size ≤ b11 := by have := HBB.out; omega
              have HE4 := Lib.hid (show newer wo ((((w8.setCell ⟨b10, 0, none⟩ (vi jx.1)).setCell ⟨b10, 1, none⟩ (vi jx.2)).setCell ⟨b11, 0, none⟩ (vi jy.1)).setCell ⟨b11, 1, none⟩ (vi jy.2)) ∧ Whole ((((w8.setCell ⟨b10, 0, none⟩ (vi jx.1)).setCell ⟨b10, 1, none⟩ (vi jx.2)).setCell ⟨b11, 0, none⟩ (vi jy.1)).setCell ⟨b11, 1, none⟩ (vi jy.2)) b10 130 #[vi jx.1, vi jx.2] ∧ Whole ((((w8.setCell ⟨b10, 0, none⟩ (vi jx.1)).setCell ⟨b10, 1, none⟩ (vi jx.2)).setCell ⟨b11, 0, none⟩ (vi jy.1)).setCell ⟨b11, 1, none⟩ (vi jy.2)) b11 130 #[vi jy.1, vi jy.2] ∧ KIter mvV trV mi (kvL (aliveS y.s (freeL y.s) i)) ib (rem.filter fun k => decide (k ≠ (ox, oy))) ((((w8.setCell ⟨b10, 0, none⟩ (vi jx.1)).setCell ⟨b10, 1, none⟩ (vi jx.2)).setCell ⟨b11, 0, none⟩ (vi jy.1)).setCell ⟨b11, 1, none⟩ (vi jy.2)) from by
                have k1 := newer_trans H7.out.1 hG
                have k4 := H7.out.2.2.2.next hG
                have hib := HIB.out
                have hmk : ∀ {b : Nat}, Whole w8 b 130 #[vi ex.1, vi ex.2] ∨ Whole w8 b 130 #[vi ey.1, vi ey.2] → mi ≠ b := fun hw e2 => by
                  obtain ⟨es, kk, h5, _⟩ := k4.map.len
                  rcases hw with hw | hw <;>
                  · unfold Whole at hw
                    rw [← e2, h5] at hw
                    injection hw with hw
                    cases hw
                have hm0 := hmk (.inl p1)
                have hm1 := hmk (.inr p2)
                refine ⟨(((k1.setCell (p := ⟨b10, 0, none⟩) hge.1 _).setCell (p := ⟨b10, 1, none⟩) hge.1 _).setCell (p := ⟨b11, 0, none⟩) hge.2 _).setCell (p := ⟨b11, 1, none⟩) hge.2 _, (q2.far (p := ⟨b11, 0, none⟩) (Ne.symm hne) _).far (p := ⟨b11, 1, none⟩) (Ne.symm hne) _, q5, ?_⟩
                exact k4.same (((Below.heap_setCell _ ⟨b11, 1, none⟩ _ mi hm1).trans (Below.heap_setCell _ ⟨b11, 0, none⟩ _ mi hm1)).trans ((Below.heap_setCell _ ⟨b10, 1, none⟩ _ mi hm0).trans (Below.heap_setCell _ ⟨b10, 0, none⟩ _ mi hm0))) (((Below.heap_setCell _ ⟨b11, 1, none⟩ _ ib (by show ib ≠ b11; omega)).trans (Below.heap_setCell _ ⟨b11, 0, none⟩ _ ib (by show ib ≠ b11; omega))).trans ((Below.heap_setCell _ ⟨b10, 1, none⟩ _ ib (by show ib ≠ b10; omega)).trans (Below.heap_setCell _ ⟨b10, 0, none⟩ _ ib (by show ib ≠ b10; omega)))))
              have HJX := Lib.hid (And.intro hjx hjy)
              clear hG hR p1 p2 q1 q2 q3 q4 q5 c0 c1 d0 d1 m0 m1 hjx hjy
              go_wp2_with fail
              refine ⟨⟨rem.filter fun k => decide (k ≠ (ox, oy)), (ox, oy) :: don, jx, jy, false, rfl, HE4.out.1, HE4.out.2.1, HE4.out.2.2.1, HE4.out.2.2.2, fun m => ?_, fun h => (by cases h), fun _ => ?_⟩, ?_⟩
              · rw [HF.out.2.2.2.1 m]
                by_cases em : m = (ox, oy)
                · simp [em, HP.out.2]
                · simp [em, List.mem_filter]
              · rw [List.map_cons, List.map_cons, HJX.out.1, HJX.out.2]
                exact ⟨EndsOf.join (fun h => (HF.out.2.2.2.2.2 h).1) (fun h => by rw [HF.out.2.2.2.2.1 h]; rfl), EndsOf.join (fun h => (HF.out.2.2.2.2.2 h).2) (fun h => by rw [HF.out.2.2.2.2.1 h]; rfl)⟩
              · rw [HE4.out.2.2.2.left, HIT.out.left]
                exact filter_less HP.out.2
          · have hdn : don ≠ [] := by
              obtain ⟨f, hf⟩ := (ok_iff (by have := HS.out.spots; omega)).1 HO.out
              have hm := (mem_alive (ks := freeL y.s) hlt).2 ⟨f, hf, rfl⟩
              rcases (HF.out.2.2.2.1 _).1 hm with h | h
              · exact List.ne_nil_of_mem h
              · rw [HALL.out] at h; cases h
            have hff : first = false := by
              cases first with
              | false => rfl
              | true => exact absurd (HF.out.2.2.2.2.1 rfl) hdn
            have hen := HF.out.2.2.2.2.2 hff
            have hli := learn_is (s := y.s) (i := i) (fun m => by rw [HF.out.2.2.2.1 m, HALL.out]; simp) hdn hen.1 hen.2
            have HKN := Lib.hid (show (knK y.s i).flatMap spL ++ [(⟨⟨ex.1, ex.2⟩, ⟨ey.1, ey.2⟩⟩ : Sp)].flatMap spL = (knK y.s (i + 1)).flatMap spL by rw [knK_succ, List.flatMap_append, hli])
            refine ⟨⟨i + 1, B2, c2, by omega, rfl, rfl, by rw [← HKN.out]; exact HE5.out.1, HE5.out.2⟩, ?_⟩
            simp [intOf]
            omega

end Go.Proofs.Ytpmafnifgegfbaa
