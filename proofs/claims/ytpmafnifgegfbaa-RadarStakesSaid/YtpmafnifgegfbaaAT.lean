/- A survey with one tool more, by the reference. -/
import Derived.Test.YtpmafnifgegfbaaAL2
import Derived.Test.YtpmafnifgegfbaaGT
namespace Go.Proofs.Ytpmafnifgegfbaa
open Go.RowKit Go.Shelf Go.Deep

theorem own_size {w : World} {base : Nat} {e : TypeId} {size n c : Nat} {A : Option Addr} {xs : List Value} (h : w.ownsRow base e size (.slice A (n + 1) c) (n + 1) xs) : base ≤ w.heap.size := by
  obtain ⟨g, rfl, hg⟩ := own_some h (Nat.succ_pos _)
  have := own_lt h g rfl
  omega
theorem info_rtool : (Try.prog.info? 43).map (fun i => (i.zero, i.size, i.bytes)) = some (some (.agg #[vi 0, vi 0, vi 0, vi 0, vi 0, vi 0, vi 0]), 7, 56) := by kernel_rfl
def vEmpT (B : Nat) (t : TypeId) (v : Value) (W : World) : Prop := ∃ nb, v = .slice (some ⟨nb, 0, none⟩) 0 0 ∧ B ≤ nb ∧ Whole W nb t #[]
theorem vEmpT_st {B : Nat} {t : TypeId} : ∀ v W W', vEmpT B t v W → newer W W' → vEmpT B t v W' := fun _ _ _ ⟨nb, h1, h2, h3⟩ hb => ⟨nb, h1, h2, h3.below hb h3.lt⟩
/-- A survey with one tool more. -/
def withS (s : Sd) (t : Tl) (r : Int) : Sd := { s with tools := s.tools ++ [t], reads := s.reads ++ [r] }
theorem with_ok {y : Sm} {t : Tl} {r : Int} {W : World} {base : Nat} {TA RA : Option Addr} {tc rc : Nat} (hs : Row spL 4 W W.heap.size y.sa y.s.spots) (ht : W.ownsRow base 43 7 (.slice TA (y.s.tools.length + 1) tc) (y.s.tools.length + 1) (y.s.tools.flatMap tlL ++ [t].flatMap tlL)) (hi : W.ownsRow base 3 1 (.slice RA (y.s.reads.length + 1) rc) (y.s.reads.length + 1) (y.s.reads.flatMap intL ++ [vi r])) : SmOk ⟨withS y.s t r, y.sa, y.sc, TA, tc, RA, rc⟩ W := by
  refine ⟨hs, ?_, ?_⟩
  · rw [← List.flatMap_append, show y.s.tools.length + 1 = (y.s.tools ++ [t]).length by simp] at ht
    exact row_of_own (enc := tlL) (size := 7) (by decide) (fun _ => rfl) ht
  · have e : y.s.reads.flatMap intL ++ [vi r] = (y.s.reads ++ [r]).flatMap intL := by
      rw [List.flatMap_append]
      rfl
    rw [e, show y.s.reads.length + 1 = (y.s.reads ++ [r]).length by simp] at hi
    exact row_of_own (enc := intL) (size := 1) (by decide) (fun _ => rfl) hi
set_option maxRecDepth 100000 in
set_option maxHeartbeats 4000000 in
theorem withR_any (y : Sm) (t : Tl) (r : Int) (w : World) (hok : SmOk y w) (few : y.s.tools.length ≤ 900) (fewr : y.s.reads.length ≤ 900) : Calls Try.prog 41 #[smV y, tlV t, vi r] w fun e w' => ∃ TA tc RA rc, e = .returned (.agg #[.slice y.sa y.s.spots.length y.sc, vi y.s.strain, .slice TA (y.s.tools.length + 1) tc, vi y.s.day, .slice RA (y.s.reads.length + 1) rc]) ∧ w'.ownsRow w.heap.size 43 7 (.slice TA (y.s.tools.length + 1) tc) (y.s.tools.length + 1) (y.s.tools.flatMap tlL ++ [t].flatMap tlL) ∧ w'.ownsRow w.heap.size 3 1 (.slice RA (y.s.reads.length + 1) rc) (y.s.reads.length + 1) (y.s.reads.flatMap intL ++ [vi r]) ∧ newer w w' := by
  have n1 := newer_allocH w (.cells (smC y) 26)
  have n2 := newer_trans n1 (newer_allocH (w.alloc (.cells (smC y) 26)) (.cells (tlC t) 43))
  have n3 := newer_trans n2 (newer_allocH ((w.alloc (.cells (smC y) 26)).alloc (.cells (tlC t) 43)) (.cells #[.slice none 0 0, vi 0, .slice none 0 0, vi 0, .slice none 0 0] 26))
  have m0 := ((Whole.made w 26 (smC y)).alloc (.cells (tlC t) 43)).alloc (.cells #[.slice none 0 0, vi 0, .slice none 0 0, vi 0, .slice none 0 0] 26)
  have m1 := (Whole.made (w.alloc (.cells (smC y) 26)) 43 (tlC t)).alloc (.cells #[.slice none 0 0, vi 0, .slice none 0 0, vi 0, .slice none 0 0] 26)
  have m2 := Whole.made ((w.alloc (.cells (smC y) 26)).alloc (.cells (tlC t) 43)) 26 #[.slice none 0 0, vi 0, .slice none 0 0, vi 0, .slice none 0 0]
  rw [World.size_alloc] at m1
  rw [World.size_alloc, World.size_alloc] at m2
  have H0 := Lib.hid (And.intro n3 (And.intro m0 (And.intro m1 m2)))
  have HOK := Lib.hid hok
  have HF := Lib.hid few
  have HFR := Lib.hid fewr
  obtain ⟨i0, hi0, hz0, hz1, hz2⟩ := info_parts info_rtool
  have HI := Lib.hid (And.intro hi0 (And.intro hz0 (And.intro hz1 hz2)))
  clear hi0 hz0 hz1 hz2
  obtain ⟨i3, hi0, hz0, hz1, hz2⟩ := info_parts info_int
  have HI3 := Lib.hid (And.intro hi0 (And.intro hz0 (And.intro hz1 hz2)))
  clear hi0 hz0 hz1 hz2
  have x0 := m0.at 0 (v := .slice y.sa y.s.spots.length y.sc) rfl
  have x1 := m0.at 1 (v := vi y.s.strain) rfl
  have x2 := m0.at 2 (v := .slice y.ta y.s.tools.length y.tc) rfl
  have x3 := m0.at 3 (v := vi y.s.day) rfl
  have x4 := m0.at 4 (v := .slice y.ra y.s.reads.length y.rc) rfl
  clear n1 n2 n3 m0 m1 m2 hok few fewr
  go_enter Try.func41, Try.ntmps41
  go_upto_region 2 with fail
  have hna : ∀ W : World, newer W (W.alloc (.cells (smC y) 26)) := fun W => newer_allocH _ _
  obtain ⟨ob, hob⟩ : ∃ q, q = (((w.alloc (.cells (smC y) 26)).alloc (.cells (tlC t) 43)).alloc (.cells #[.slice none 0 0, vi 0, .slice none 0 0, vi 0, .slice none 0 0] 26)).heap.size := ⟨_, rfl⟩
  have hob3 : ob = w.heap.size + 1 + 1 + 1 := by rw [hob]; simp only [World.size_alloc]
  have hgen := (show newer w ((((w.alloc (.cells (smC y) 26)).alloc (.cells (tlC t) 43)).alloc (.cells #[.slice none 0 0, vi 0, .slice none 0 0, vi 0, .slice none 0 0] 26)).alloc (.cells (smC y) 26)) ∧ Whole ((((w.alloc (.cells (smC y) 26)).alloc (.cells (tlC t) 43)).alloc (.cells #[.slice none 0 0, vi 0, .slice none 0 0, vi 0, .slice none 0 0] 26)).alloc (.cells (smC y) 26)) w.heap.size 26 (smC y) ∧ Whole ((((w.alloc (.cells (smC y) 26)).alloc (.cells (tlC t) 43)).alloc (.cells #[.slice none 0 0, vi 0, .slice none 0 0, vi 0, .slice none 0 0] 26)).alloc (.cells (smC y) 26)) (w.heap.size + 1) 43 (tlC t) ∧ Whole ((((w.alloc (.cells (smC y) 26)).alloc (.cells (tlC t) 43)).alloc (.cells #[.slice none 0 0, vi 0, .slice none 0 0, vi 0, .slice none 0 0] 26)).alloc (.cells (smC y) 26)) (w.heap.size + 1 + 1) 26 #[.slice none 0 0, vi 0, .slice none 0 0, vi 0, .slice none 0 0] ∧ Whole ((((w.alloc (.cells (smC y) 26)).alloc (.cells (tlC t) 43)).alloc (.cells #[.slice none 0 0, vi 0, .slice none 0 0, vi 0, .slice none 0 0] 26)).alloc (.cells (smC y) 26)) ob 26 (smC y) from ⟨newer_trans H0.out.1 (hna _), H0.out.2.1.below (hna _) H0.out.2.1.lt, H0.out.2.2.1.below (hna _) H0.out.2.2.1.lt, H0.out.2.2.2.below (hna _) H0.out.2.2.2.lt, by rw [hob]; exact Whole.made _ _ _⟩)
  rw [← hob3]
  refine genQ (fun X => newer w X ∧ Whole X w.heap.size 26 (smC y) ∧ Whole X (w.heap.size + 1) 43 (tlC t) ∧ Whole X (w.heap.size + 1 + 1) 26 #[.slice none 0 0, vi 0, .slice none 0 0, vi 0, .slice none 0 0] ∧ Whole X ob 26 (smC y)) hgen ?_
  rintro w1 ⟨hn1, hx1, ht1, hr1, ho1⟩
  have H1 := Lib.hid (And.intro hn1 (And.intro hx1 (And.intro ht1 (And.intro hr1 ho1))))
  have HOB := Lib.hid hob3
  clear hgen hna hob hob3 x0 x1 x2 x3 x4 H0 hn1
  have x2 := hx1.at 2 (v := .slice y.ta y.s.tools.length y.tc) rfl
  have t0 := ht1.at 0 (v := vi t.spot) rfl
  have t1 := ht1.at 1 (v := vi t.a) rfl
  have t2 := ht1.at 2 (v := vi t.b) rfl
  have t3 := ht1.at 3 (v := vi t.turn) rfl
  have t4 := ht1.at 4 (v := vi t.err) rfl
  have t5 := ht1.at 5 (v := vi t.drift) rfl
  have t6 := ht1.at 6 (v := vi t.since) rfl
  clear hx1 ht1 hr1 ho1
  refine wp_words (by kernel_rfl) (region_turn 8 6 (by kernel_rfl) (by kernel_rfl) (by decide) (fun _ W => Below w1.heap.size w1 W) (pickB [vEmpT w1.heap.size 43, vIs (.pointer (some ⟨w.heap.size, 2, none⟩)), vIs (.slice y.ta y.s.tools.length y.tc), vOwn w1.heap.size 43 7 tlL y.s.tools, vIs (tlV t), vOne w1.heap.size 43 (tlC t), (fun _ _ => True), vIs (.pointer (some ⟨ob, 2, none⟩))] [(fun _ _ => True), vIs (.pointer (some ⟨w.heap.size, 2, none⟩)), vIs (.slice y.ta y.s.tools.length y.tc), (fun _ _ => True), (fun _ _ => True), (fun _ _ => True), vOwnV w1.heap.size 43 7 (y.s.tools.length + 1) (y.s.tools.flatMap tlL ++ [t].flatMap tlL), vIs (.pointer (some ⟨ob, 2, none⟩))]) (pickB_stable ⟨vEmpT_st, vIs_st, vIs_st, vOwn_st, vIs_st, vOne_st, (fun _ _ _ h _ => h), vIs_st, trivial⟩ ⟨(fun _ _ _ h _ => h), vIs_st, vIs_st, (fun _ _ _ h _ => h), (fun _ _ _ h _ => h), (fun _ _ _ h _ => h), vOwnV_st, vIs_st, trivial⟩) (Below.refl _ w1).drew ?_ ?_)
  · refine ⟨?_, ?_, ?_, ?_, ?_, ?_, ?_, ?_, trivial⟩
    · intro b a W hG hO hp
      refine wp_makes (v := .slice (some ⟨W.heap.size, 0, none⟩) 0 0) (W' := W.alloc (.cells #[] 43)) ?_ ⟨_, rfl, (by cases b with | false => exact ⟨_, rfl, hG.size, Whole.made _ _ _⟩ | true => trivial), newer_allocH _ _, below_next hG (newer_allocH _ _)⟩
      skip
      simp [execOp, go_sem]
    · intro b a W hG hO hp
      have h3 := hO.slot 3 (by kernel_rfl)
      refine wp_yields (v := .pointer (some ⟨w.heap.size, 2, none⟩)) ?_ ⟨_, rfl, (by cases b <;> rfl), Below.refl _ _, hG⟩
      simp [slotOf] at h3
      simp [execOp, go_sem, h3]
    · intro b a W hG hO hp
      have h10 : slotOf a 10 = .pointer (some ⟨w.heap.size, 2, none⟩) := by cases b <;> exact hp.1
      have c0 := keep_cell x2 hG
      refine wp_yields (v := .slice y.ta y.s.tools.length y.tc) ?_ ⟨_, rfl, (by cases b <;> rfl), Below.refl _ _, hG⟩
      simp [slotOf] at h10
      simp [execOp, go_sem, h10, c0]
    · intro a W hG hO hp
      have h9 := hp.1
      have h11 : slotOf a 11 = .slice y.ta y.s.tools.length y.tc := hp.2.1
      obtain ⟨nb, h9, hnb, hW⟩ := h9
      obtain ⟨hi0, hz0, hz1, hz2⟩ := HI.out
      refine wp_append_owncopy (enc := tlL) (size := 7) w1.heap.size (.tmp 9) (.tmp 11) 23 43 i0 (.agg #[vi 0, vi 0, vi 0, vi 0, vi 0, vi 0, vi 0]) 56 Try.underlying23 hi0 hz0 hz1 hz2 rfl (by omega) (by omega) (fun _ => rfl) rfl nb ((eval_slot a 9).trans h9) hnb hW y.s.tools y.ta y.tc ((eval_slot a 11).trans h11) (by have := HF.out; omega) (HOK.out.next (newer_trans H1.out.1 hG)).tl hG.size ?_
      intro B c w' hown hb hlt
      exact ⟨_, rfl, ⟨B, c, rfl, hown⟩, hb, below_next hG hb⟩
    · intro b a W hG hO hp
      have h4 := hO.slot 4 (by kernel_rfl)
      have c0 := keep_cell t0 hG
      have c1 := keep_cell t1 hG
      have c2 := keep_cell t2 hG
      have c3 := keep_cell t3 hG
      have c4 := keep_cell t4 hG
      have c5 := keep_cell t5 hG
      have c6 := keep_cell t6 hG
      refine wp_yields (v := tlV t) ?_ ⟨_, rfl, (by cases b with | false => exact rfl | true => trivial), Below.refl _ _, hG⟩
      simp [slotOf] at h4
      simp [execOp, go_sem, h4, c0, c1, c2, c3, c4, c5, c6]
    · intro a W hG hO hp
      have h13 : slotOf a 13 = tlV t := hp.1
      refine wp_makes (v := .slice (some ⟨W.heap.size, 0, none⟩) 1 1) (W' := W.alloc (.cells (tlC t) 43)) ?_ ⟨_, rfl, ⟨_, rfl, hG.size, Whole.made _ _ _⟩, newer_allocH _ _, below_next hG (newer_allocH _ _)⟩
      simp [slotOf] at h13
      simp [execOp, go_sem, h13]
    · intro a W hG hO hp
      have h12 := hp.1
      have h14 := hp.2.1
      obtain ⟨A, c, h12, ho⟩ := h12
      obtain ⟨nb, h14, hnb, hW⟩ := h14
      obtain ⟨hi0, hz0, hz1, hz2⟩ := HI.out
      refine wp_append_all (enc := tlL) (size := 7) (w1.heap.size) (.tmp 12) (.tmp 14) 23 43 i0 (.agg #[vi 0, vi 0, vi 0, vi 0, vi 0, vi 0, vi 0]) 56 Try.underlying23 hi0 hz0 hz1 hz2 rfl (by omega) (fun _ => rfl) tlL_one rfl A y.s.tools.length c (y.s.tools.flatMap tlL) ((eval_slot a 12).trans h12) ho [t] (some ⟨nb, 0, none⟩) 1 ((eval_slot a 14).trans h14) (row_of_whole (enc := tlL) (s := 7) (fun _ => rfl) hW rfl) (by have := HF.out; unfold maxLen; simp only [List.length_singleton]; omega) (by have := HF.out; simp only [List.length_singleton]; omega) hG.size ?_
      intro B c' w2 hown hgr hat
      exact ⟨_, rfl, ⟨B, c', rfl, hown⟩, below_row hG ho hgr (Nat.le_refl _), fun j hj u hD => by
        match j, hj, hD with
        | 0, _, _ => trivial
        | 1, _, hD =>
          exact hD
        | 2, _, hD =>
          exact hD
        | 3, _, _ => trivial
        | 4, _, _ => trivial
        | 5, _, _ => trivial
        | 6, hj, _ => exact absurd rfl hj
        | 7, _, hD =>
          exact hD
        | (_ + 8), _, hD => exact hD⟩
    · intro b a W hG hO hp
      have h7 := hO.slot 7 (by kernel_rfl)
      refine wp_yields (v := .pointer (some ⟨ob, 2, none⟩)) ?_ ⟨_, rfl, (by cases b <;> rfl), Below.refl _ _, hG⟩
      simp [slotOf] at h7
      simp [execOp, go_sem, h7]
  · intro w5 hG
    rintro _ - _ rfl _ rfl _ - _ - _ - _ ⟨TA, tc2, rfl, hto⟩ _ rfl
    change wpList _ _ _ _ _ _
    simp only [Act.put, List.setIfInBounds_toArray, List.set_cons_zero, List.set_cons_succ, List.drop_succ_cons, List.drop_zero]
    have H5 := Lib.hid (And.intro hG hto)
    have ho5 := H1.out.2.2.2.2.below hG H1.out.2.2.2.2.lt
    have z2 := ho5.at 2 (v := .slice y.ta y.s.tools.length y.tc) rfl
    have f2 := ho5.free 2
    clear hG hto ho5 x2 t0 t1 t2 t3 t4 t5 t6
    go_upto_region 3 with fail
    have hob : w.heap.size ≤ ob := by rw [HOB.out]; omega
    have hob2 : w.heap.size + 1 + 1 ≠ ob := by rw [HOB.out]; omega
    have hob0 : w.heap.size ≠ ob := by rw [HOB.out]; omega
    have hq5 := fun {k t : Nat} {cs : Array Value} (h : Whole w1 k t cs) => h.below H5.out.1 h.lt
    have hown5 : (w5.setCell ⟨ob, 2, none⟩ (.slice TA (y.s.tools.length + 1) tc2)).ownsRow w1.heap.size 43 7 (.slice TA (y.s.tools.length + 1) tc2) (y.s.tools.length + 1) (y.s.tools.flatMap tlL ++ [t].flatMap tlL) := own_set H5.out.2 (own_ne H5.out.2 (hq5 H1.out.2.2.2.2) (by decide)) _
    refine genQ (fun X => newer w X ∧ Whole X w.heap.size 26 (smC y) ∧ Whole X (w.heap.size + 1 + 1) 26 #[.slice none 0 0, vi 0, .slice none 0 0, vi 0, .slice none 0 0] ∧ Whole X ob 26 #[.slice y.sa y.s.spots.length y.sc, vi y.s.strain, .slice TA (y.s.tools.length + 1) tc2, vi y.s.day, .slice y.ra y.s.reads.length y.rc] ∧ X.ownsRow w1.heap.size 43 7 (.slice TA (y.s.tools.length + 1) tc2) (y.s.tools.length + 1) (y.s.tools.flatMap tlL ++ [t].flatMap tlL)) ⟨(newer_trans H1.out.1 H5.out.1).setCell (p := ⟨ob, 2, none⟩) hob _, (hq5 H1.out.2.1).far (p := ⟨ob, 2, none⟩) hob0 _, (hq5 H1.out.2.2.2.1).far (p := ⟨ob, 2, none⟩) hob2 _, (hq5 H1.out.2.2.2.2).set 2 _, hown5⟩ ?_
    clear hq5 hown5 z2 f2
    rintro w6 ⟨hn6, hx6, hr6, ho6, ht6⟩
    have HN6 := Lib.hid hn6
    have HN1S := Lib.hid H1.out.1.size
    have HW6 := Lib.hid (And.intro hx6 (And.intro hr6 (And.intro ho6 ht6)))
    have HS6 := Lib.hid (show w1.heap.size ≤ w6.heap.size from own_size ht6)
    have HS6A := Lib.hid (show w1.heap.size ≤ (w6.alloc (.cells #[] 3)).heap.size by have h := own_size ht6; rw [World.size_alloc]; omega)
    have HRD6 := Lib.hid ((HOK.out.next (newer_trans hn6 (newer_allocH w6 (.cells #[] 3)))).rd)
    have x4 := keep_cell (hx6.at 4 (v := .slice y.ra y.s.reads.length y.rc) rfl) (newer_allocH w6 (.cells #[] 3))
    clear hn6 hx6 hr6 ho6 ht6 H5
    go_upto_region 4 with (first | (at_builtin; (refine wpList_plain rfl fun _ hK => wp_append_owncopy (enc := intL) (size := 1) w1.heap.size (.tmp 17) (.tmp 19) 24 3 i3 (.int .i64 0) 8 Try.underlying24 HI3.out.1 HI3.out.2.1 HI3.out.2.2.1 HI3.out.2.2.2 rfl (by omega) (by omega) (fun _ => rfl) rfl w6.heap.size rfl HS6.out (Whole.made _ _ _) y.s.reads y.ra y.rc rfl (by have := HFR.out; omega) HRD6.out HS6A.out fun B c w7 hown hb hlt => hK _ _ ?_); have HO7 := Lib.hid hown; have HB7 := Lib.hid (newer_trans (newer_allocH w6 (.cells #[] 3)) hb); have HV7 : Hid (Whole (w7.alloc (.cells #[vi r] 3)) w7.heap.size 3 #[vi r]) := Lib.hid (Whole.made _ _ _); have HO8 := Lib.hid (own_below hown (newer_allocH w7 (.cells #[vi r] 3))); have HS8 := Lib.hid (show w1.heap.size ≤ (w7.alloc (.cells #[vi r] 3)).heap.size by have h1 := HS6.out; have h2 := HB7.out.size; rw [World.size_alloc]; omega); have HN78 := Lib.hid (newer_trans HB7.out (newer_allocH w7 (.cells #[vi r] 3))); clear hown hb hlt) | (at_builtin; (refine wpList_plain rfl fun _ hK => wp_append_one (.tmp 20) (.tmp 22) 24 rfl w1.heap.size 3 i3 (.int .i64 0) 8 Try.underlying24 HI3.out.1 HI3.out.2.1 HI3.out.2.2.1 HI3.out.2.2.2 rfl B y.s.reads.length c (y.s.reads.flatMap intL) rfl HO8.out ⟨w7.heap.size, 0, none⟩ 1 (vi r) rfl (HV7.out.at 0 rfl) rfl (by have := HFR.out; unfold maxLen; omega) (by have := HFR.out; omega) HS8.out fun g3 rc2 w8 hown hwh => hK _ _ ?_); have HE8 := Lib.hid (And.intro hown (below_row (newer_trans HN6.out HN78.out) HO8.out (Onto1.grown (A := B) (c := c) (n := y.s.reads.length) hwh) HN1S.out)); have HGR8 := Lib.hid (Onto1.grown (A := B) (c := c) (n := y.s.reads.length) hwh); have hw8 := (HW6.out.2.2.1.below HN78.out HW6.out.2.2.1.lt).grown HGR8.out (own_ne HO8.out (HW6.out.2.2.1.below HN78.out HW6.out.2.2.1.lt) (by decide)).symm; have hz4 := hw8.at 4 (v := .slice y.ra y.s.reads.length y.rc) rfl; have hf4 := hw8.free 4; have HW8 := Lib.hid hw8; clear hown hwh hw8))
    have hd8 := HW8.out
    have hr8 := (HW6.out.2.1.below HN78.out HW6.out.2.1.lt).grown HGR8.out (own_ne HO8.out (HW6.out.2.1.below HN78.out HW6.out.2.1.lt) (by decide)).symm
    have ht8 := (own_below HW6.out.2.2.2 HN78.out).kept HGR8.out (own_apart (own_below HW6.out.2.2.2 HN78.out) HO8.out (by decide))
    refine genQ (fun X => newer w X ∧ Whole X (w.heap.size + 1 + 1) 26 #[.slice none 0 0, vi 0, .slice none 0 0, vi 0, .slice none 0 0] ∧ Whole X ob 26 #[.slice y.sa y.s.spots.length y.sc, vi y.s.strain, .slice TA (y.s.tools.length + 1) tc2, vi y.s.day, .slice (some ⟨g3, 0, none⟩) (y.s.reads.length + 1) rc2] ∧ X.ownsRow w1.heap.size 43 7 (.slice TA (y.s.tools.length + 1) tc2) (y.s.tools.length + 1) (y.s.tools.flatMap tlL ++ [t].flatMap tlL) ∧ X.ownsRow w1.heap.size 3 1 (.slice (some ⟨g3, 0, none⟩) (y.s.reads.length + 1) rc2) (y.s.reads.length + 1) (y.s.reads.flatMap intL ++ [vi r])) ⟨HE8.out.2.setCell (p := ⟨ob, 4, none⟩) hob _, hr8.far (p := ⟨ob, 4, none⟩) hob2 _, hd8.set 4 _, own_set ht8 (own_ne ht8 hd8 (by decide)) _, own_set HE8.out.1 (own_ne HE8.out.1 hd8 (by decide)) _⟩ ?_
    clear hd8 hr8 ht8 hz4 hf4 x4 hob hob2 hob0
    rintro w9 ⟨hn9, hr9, ho9, ht9, hi9⟩
    have H9 := Lib.hid (And.intro hn9 (And.intro hr9 (And.intro ht9 hi9)))
    have z0 := ho9.at 0 (v := .slice y.sa y.s.spots.length y.sc) rfl
    have z1 := ho9.at 1 (v := vi y.s.strain) rfl
    have z2 := ho9.at 2 (v := .slice TA (y.s.tools.length + 1) tc2) rfl
    have z3 := ho9.at 3 (v := vi y.s.day) rfl
    have z4 := ho9.at 4 (v := .slice (some ⟨g3, 0, none⟩) (y.s.reads.length + 1) rc2) rfl
    have b0 := hr9.at 0 rfl
    have f0 := hr9.free 0
    have b1 := hr9.at 1 rfl
    have f1 := hr9.free 1
    have b2 := hr9.at 2 rfl
    have f2 := hr9.free 2
    have b3 := hr9.at 3 rfl
    have f3 := hr9.free 3
    have b4 := hr9.at 4 rfl
    have f4 := hr9.free 4
    clear hn9 hr9 ho9 ht9 hi9
    go_wp2_with fail
    have hw := (((((H9.out.2.1).set 0 (.slice y.sa y.s.spots.length y.sc)).set 1 (vi y.s.strain)).set 2 (.slice TA (y.s.tools.length + 1) tc2)).set 3 (vi y.s.day)).set 4 (.slice (some ⟨g3, 0, none⟩) (y.s.reads.length + 1) rc2)
    have k0 := hw.at 0 (v := .slice y.sa y.s.spots.length y.sc) rfl
    have k1 := hw.at 1 (v := vi y.s.strain) rfl
    have k2 := hw.at 2 (v := .slice TA (y.s.tools.length + 1) tc2) rfl
    have k3 := hw.at 3 (v := vi y.s.day) rfl
    have k4 := hw.at 4 (v := .slice (some ⟨g3, 0, none⟩) (y.s.reads.length + 1) rc2) rfl
    have hn : newer w ((((((w9).setCell ⟨w.heap.size + 1 + 1, 0, none⟩ (.slice y.sa y.s.spots.length y.sc)).setCell ⟨w.heap.size + 1 + 1, 1, none⟩ (vi y.s.strain)).setCell ⟨w.heap.size + 1 + 1, 2, none⟩ (.slice TA (y.s.tools.length + 1) tc2)).setCell ⟨w.heap.size + 1 + 1, 3, none⟩ (vi y.s.day)).setCell ⟨w.heap.size + 1 + 1, 4, none⟩ (.slice (some ⟨g3, 0, none⟩) (y.s.reads.length + 1) rc2)) := (((((H9.out.1).setCell (p := ⟨w.heap.size + 1 + 1, 0, none⟩) (by dsimp only; omega) (.slice y.sa y.s.spots.length y.sc)).setCell (p := ⟨w.heap.size + 1 + 1, 1, none⟩) (by dsimp only; omega) (vi y.s.strain)).setCell (p := ⟨w.heap.size + 1 + 1, 2, none⟩) (by dsimp only; omega) (.slice TA (y.s.tools.length + 1) tc2)).setCell (p := ⟨w.heap.size + 1 + 1, 3, none⟩) (by dsimp only; omega) (vi y.s.day)).setCell (p := ⟨w.heap.size + 1 + 1, 4, none⟩) (by dsimp only; omega) (.slice (some ⟨g3, 0, none⟩) (y.s.reads.length + 1) rc2)
    have hrow : ∀ {e : TypeId} {s n : Nat} {v : Value} {ys : List Value}, w9.ownsRow w1.heap.size e s v n ys → e ≠ 26 → ((((((w9).setCell ⟨w.heap.size + 1 + 1, 0, none⟩ (.slice y.sa y.s.spots.length y.sc)).setCell ⟨w.heap.size + 1 + 1, 1, none⟩ (vi y.s.strain)).setCell ⟨w.heap.size + 1 + 1, 2, none⟩ (.slice TA (y.s.tools.length + 1) tc2)).setCell ⟨w.heap.size + 1 + 1, 3, none⟩ (vi y.s.day)).setCell ⟨w.heap.size + 1 + 1, 4, none⟩ (.slice (some ⟨g3, 0, none⟩) (y.s.reads.length + 1) rc2)).ownsRow w1.heap.size e s v n ys := fun ho hne => own_put5 H9.out.2.1 ho hne _ _ _ _ _
    have hz := And.intro (own_more (hrow H9.out.2.2.1 (by decide)) HN1S.out) (own_more (hrow H9.out.2.2.2 (by decide)) HN1S.out)
    have HZ := Lib.hid (And.intro hz hn)
    exact bodyPost_ret (v := .agg #[.slice y.sa y.s.spots.length y.sc, vi y.s.strain, .slice TA (y.s.tools.length + 1) tc2, vi y.s.day, .slice (some ⟨g3, 0, none⟩) (y.s.reads.length + 1) rc2]) (by simp [results, Try.results41, go_sem, k0, k1, k2, k3, k4]) rfl ⟨TA, tc2, some ⟨g3, 0, none⟩, rc2, rfl, HZ.out.1.1, HZ.out.1.2, HZ.out.2⟩

end Go.Proofs.Ytpmafnifgegfbaa
