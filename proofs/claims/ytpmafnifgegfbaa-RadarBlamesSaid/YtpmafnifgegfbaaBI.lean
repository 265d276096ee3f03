/- A survey without a tool, by the reference. -/
import Derived.Test.YtpmafnifgegfbaaAT
import Derived.Test.YtpmafnifgegfbaaPG
namespace Go.Proofs.Ytpmafnifgegfbaa
open Go.RowKit Go.Shelf Go.Deep

theorem row_take {α : Type} {enc : α → List Value} {s : Nat} {w : World} {B : Nat} {A : Option Addr} {l : List α} (h : Row enc s w B A l) (k : Nat) : Row enc s w B A (l.take k) := fun hne => by
  obtain ⟨b, off, e, hb, hc⟩ := h (fun e => hne (by rw [e, List.take_nil]))
  refine ⟨b, off, e, hb, fun i c hi => hc i c ?_⟩
  rw [List.getElem?_take] at hi
  split at hi
  · exact hi
  · cases hi
theorem row_drop {α : Type} {enc : α → List Value} {s : Nat} {w : World} {B b off : Nat} {A : Option Addr} {l : List α} {k : Nat} (h : Row enc s w B (some ⟨b, off, none⟩) l) (hA : l.drop k ≠ [] → A = some ⟨b, off + k * s, none⟩) : Row enc s w B A (l.drop k) := fun hne => by
  obtain ⟨b', off', e, hb, hc⟩ := h (fun e => hne (by rw [e, List.drop_nil]))
  injection e with e
  injection e with e1 e2
  subst e1
  subst e2
  refine ⟨b, off + k * s, hA hne, hb, fun i c hi j v hv => ?_⟩
  rw [List.getElem?_drop] at hi
  have h1 := hc (k + i) c hi j v hv
  rw [Nat.add_mul] at h1
  rw [show off + k * s + i * s + j = off + (k * s + i * s) + j by omega]
  exact h1
theorem drop_okR {y : Sm} {i n : Nat} {W : World} {base : Nat} {TA RA : Option Addr} {tc rc : Nat} (hs : Row spL 4 W W.heap.size y.sa y.s.spots) (hn : y.s.tools.length = n) (hrn : y.s.reads.length = n) (hi : i < n) (ht : W.ownsRow base 43 7 (.slice TA (n - 1) tc) (n - 1) ((y.s.tools.eraseIdx i).flatMap tlL)) (hr : W.ownsRow base 3 1 (.slice RA (n - 1) rc) (n - 1) ((y.s.reads.eraseIdx i).flatMap intL)) : SmOk ⟨dropS y.s i, y.sa, y.sc, TA, tc, RA, rc⟩ W := by
  refine ⟨hs, ?_, ?_⟩
  · rw [show n - 1 = (y.s.tools.eraseIdx i).length by rw [List.length_eraseIdx_of_lt (by omega), hn]] at ht
    exact row_of_own (enc := tlL) (size := 7) (by decide) (fun _ => rfl) ht
  · rw [show n - 1 = (y.s.reads.eraseIdx i).length by rw [List.length_eraseIdx_of_lt (by omega), hrn]] at hr
    exact row_of_own (enc := intL) (size := 1) (by decide) (fun _ => rfl) hr
theorem intL_one' (n : Int) : ∀ u ∈ intL n, u.oneCell' = true := by
  intro u hu
  obtain rfl := List.mem_singleton.1 hu
  rfl
set_option maxRecDepth 100000 in
set_option maxHeartbeats 4000000 in
theorem withoutR_any (y : Sm) (i n : Nat) (w : World) (hok : SmOk y w) (hn8 : n ≤ 8) (hn : y.s.tools.length = n) (hrn : y.s.reads.length = n) (hi : i < n) (htc : n ≤ y.tc) (hrc : n ≤ y.rc) : Calls Try.prog 50 #[smV y, .int .i64 i] w fun e w' => ∃ A c B d, e = .returned (.agg #[.slice y.sa y.s.spots.length y.sc, vi y.s.strain, .slice A (n - 1) c, vi y.s.day, .slice B (n - 1) d]) ∧ SmOk ⟨dropS y.s i, y.sa, y.sc, A, c, B, d⟩ w' ∧ newer w w' := by
  have hb1 := newer_trans (newer_allocH w (.cells (smC y) 26)) (newer_allocH (w.alloc (.cells (smC y) 26)) (.cells #[.slice none 0 0, vi 0, .slice none 0 0, vi 0, .slice none 0 0] 26))
  have m0 := (Whole.made w 26 (smC y)).alloc (.cells #[.slice none 0 0, vi 0, .slice none 0 0, vi 0, .slice none 0 0] 26)
  have m1 := Whole.made (w.alloc (.cells (smC y) 26)) 26 #[.slice none 0 0, vi 0, .slice none 0 0, vi 0, .slice none 0 0]
  simp only [World.size_alloc] at m1
  have H0 := Lib.hid (And.intro hb1 (And.intro m0 m1))
  have HOK := Lib.hid hok
  have HNN := Lib.hid (And.intro hn hrn)
  obtain ⟨t, ht⟩ : ∃ t, y.s.tools[i]? = some t := ⟨_, List.getElem?_eq_getElem (by omega)⟩
  obtain ⟨r, hr⟩ : ∃ r, y.s.reads[i]? = some r := ⟨_, List.getElem?_eq_getElem (by omega)⟩
  obtain ⟨tb, tof, et, _⟩ := row7 hok.tl ht
  obtain ⟨rb, ro, er, _⟩ := row1 hok.rd hr
  have HET := Lib.hid (And.intro et er)
  obtain ⟨j, hj⟩ : ∃ j, j = i + 1 := ⟨_, rfl⟩
  have ej : (i : Int) + 1 = (j : Int) := by omega
  have ewj : IntKind.i64.wrap (j : Int) = (j : Int) := IntWalk.i64_in _ (by omega)
  have HJ := Lib.hid hj
  have hjn : j ≤ n := by omega
  have hin : i ≤ n := by omega
  have x0 := m0.at 0 (v := .slice y.sa y.s.spots.length y.sc) rfl
  have x1 := m0.at 1 (v := vi y.s.strain) rfl
  have x2 := m0.at 2 (v := .slice y.ta y.s.tools.length y.tc) rfl
  have x3 := m0.at 3 (v := vi y.s.day) rfl
  have x4 := m0.at 4 (v := .slice y.ra y.s.reads.length y.rc) rfl
  obtain ⟨i0, hi0, hz0, hz1, hz2⟩ := info_parts info_rtool
  have HI := Lib.hid (And.intro hi0 (And.intro hz0 (And.intro hz1 hz2)))
  clear hi0 hz0 hz1 hz2
  obtain ⟨i3, hi0, hz0, hz1, hz2⟩ := info_parts info_int
  have HI3 := Lib.hid (And.intro hi0 (And.intro hz0 (And.intro hz1 hz2)))
  clear hi0 hz0 hz1 hz2
  clear hok hb1 m0 m1 hn hrn hj ht hr et er
  go_enter Try.func50, Try.ntmps50
  go_upto_region 2 with fail
  obtain ⟨ob, hob⟩ : ∃ q, q = w.heap.size + 1 + 1 := ⟨_, rfl⟩
  have hobw : ((w.alloc (.cells (smC y) 26)).alloc (.cells #[.slice none 0 0, vi 0, .slice none 0 0, vi 0, .slice none 0 0] 26)).heap.size = ob := by rw [hob]; simp only [World.size_alloc]
  have hna := newer_allocH ((w.alloc (.cells (smC y) 26)).alloc (.cells #[.slice none 0 0, vi 0, .slice none 0 0, vi 0, .slice none 0 0] 26)) (.cells #[.slice y.sa y.s.spots.length y.sc, vi y.s.strain, .slice y.ta y.s.tools.length y.tc, vi y.s.day, .slice y.ra y.s.reads.length y.rc] 26)
  have hgen : newer w (((w.alloc (.cells (smC y) 26)).alloc (.cells #[.slice none 0 0, vi 0, .slice none 0 0, vi 0, .slice none 0 0] 26)).alloc (.cells #[.slice y.sa y.s.spots.length y.sc, vi y.s.strain, .slice y.ta y.s.tools.length y.tc, vi y.s.day, .slice y.ra y.s.reads.length y.rc] 26)) ∧ Whole (((w.alloc (.cells (smC y) 26)).alloc (.cells #[.slice none 0 0, vi 0, .slice none 0 0, vi 0, .slice none 0 0] 26)).alloc (.cells #[.slice y.sa y.s.spots.length y.sc, vi y.s.strain, .slice y.ta y.s.tools.length y.tc, vi y.s.day, .slice y.ra y.s.reads.length y.rc] 26)) w.heap.size 26 (smC y) ∧ Whole (((w.alloc (.cells (smC y) 26)).alloc (.cells #[.slice none 0 0, vi 0, .slice none 0 0, vi 0, .slice none 0 0] 26)).alloc (.cells #[.slice y.sa y.s.spots.length y.sc, vi y.s.strain, .slice y.ta y.s.tools.length y.tc, vi y.s.day, .slice y.ra y.s.reads.length y.rc] 26)) (w.heap.size + 1) 26 #[.slice none 0 0, vi 0, .slice none 0 0, vi 0, .slice none 0 0] ∧ Whole (((w.alloc (.cells (smC y) 26)).alloc (.cells #[.slice none 0 0, vi 0, .slice none 0 0, vi 0, .slice none 0 0] 26)).alloc (.cells #[.slice y.sa y.s.spots.length y.sc, vi y.s.strain, .slice y.ta y.s.tools.length y.tc, vi y.s.day, .slice y.ra y.s.reads.length y.rc] 26)) ob 26 #[.slice y.sa y.s.spots.length y.sc, vi y.s.strain, .slice y.ta y.s.tools.length y.tc, vi y.s.day, .slice y.ra y.s.reads.length y.rc] := ⟨newer_trans H0.out.1 hna, H0.out.2.1.below hna H0.out.2.1.lt, H0.out.2.2.below hna H0.out.2.2.lt, by rw [← hobw]; exact Whole.made _ _ _⟩
  rw [← hob]
  refine genQ (fun X => newer w X ∧ Whole X w.heap.size 26 (smC y) ∧ Whole X (w.heap.size + 1) 26 #[.slice none 0 0, vi 0, .slice none 0 0, vi 0, .slice none 0 0] ∧ Whole X ob 26 #[.slice y.sa y.s.spots.length y.sc, vi y.s.strain, .slice y.ta y.s.tools.length y.tc, vi y.s.day, .slice y.ra y.s.reads.length y.rc]) hgen ?_
  have HOB := Lib.hid (show ob = w.heap.size + 1 + 1 from hob)
  clear hgen hna hob hobw x0 x1 x2 x3 x4 H0
  rintro w1 ⟨hn1, hx1, hr1, ho1⟩
  have x2 := hx1.at 2 (v := .slice y.ta y.s.tools.length y.tc) rfl
  rw [HET.out.1, HNN.out.1] at x2
  have H1 := Lib.hid (And.intro hn1 (And.intro hx1 (And.intro hr1 ho1)))
  have hic : i ≤ y.tc := by omega
  have hjc : j ≤ y.tc := by omega
  have hnc : n ≤ y.tc := htc
  obtain ⟨A2, hA2⟩ : ∃ A : Option Addr, (if y.tc = j then (some ⟨tb, tof, none⟩ : Option Addr) else some ⟨tb, tof + j * 7, none⟩) = A := ⟨_, rfl⟩
  have HRD2 : Hid (∀ W, newer w1 W → Row tlL 7 W W.heap.size A2 (y.s.tools.drop j)) := Lib.hid (fun W hW => by
    have h := (HOK.out.next (newer_trans hn1 hW)).tl
    rw [HET.out.1] at h
    refine row_drop h (fun hne => ?_)
    rw [← hA2, if_neg (fun e => hne (List.drop_eq_nil_of_le (by rw [HNN.out.1]; omega)))])
  clear hn1 hx1 hr1 ho1
  refine wp_words (by kernel_rfl) (region_turn 13 11 (by kernel_rfl) (by kernel_rfl) (by decide) (fun _ W => Below w1.heap.size w1 W) (pickB [vEmpT w1.heap.size 43, vIs (.pointer (some ⟨w.heap.size, 2, none⟩)), vIs (.slice (some ⟨tb, tof, none⟩) n y.tc), vIs (vi i), vIs (.slice (some ⟨tb, tof, none⟩) i y.tc), vOwn w1.heap.size 43 7 tlL (y.s.tools.take i), vIs (.pointer (some ⟨w.heap.size, 2, none⟩)), vIs (.slice (some ⟨tb, tof, none⟩) n y.tc), vIs (vi i), vIs (vi j), vIs (.slice A2 (n - j) (y.tc - j)), (fun _ _ => True), vIs (.pointer (some ⟨ob, 2, none⟩))] [(fun _ _ => True), vIs (.pointer (some ⟨w.heap.size, 2, none⟩)), vIs (.slice (some ⟨tb, tof, none⟩) n y.tc), vIs (vi i), vIs (.slice (some ⟨tb, tof, none⟩) i y.tc), (fun _ _ => True), vIs (.pointer (some ⟨w.heap.size, 2, none⟩)), vIs (.slice (some ⟨tb, tof, none⟩) n y.tc), vIs (vi i), vIs (vi j), (fun _ _ => True), vOwnV w1.heap.size 43 7 (n - 1) ((y.s.tools.eraseIdx i).flatMap tlL), vIs (.pointer (some ⟨ob, 2, none⟩))]) (pickB_stable ⟨vEmpT_st, vIs_st, vIs_st, vIs_st, vIs_st, vOwn_st, vIs_st, vIs_st, vIs_st, vIs_st, vIs_st, (fun _ _ _ h _ => h), vIs_st, trivial⟩ ⟨(fun _ _ _ h _ => h), vIs_st, vIs_st, vIs_st, vIs_st, (fun _ _ _ h _ => h), vIs_st, vIs_st, vIs_st, vIs_st, (fun _ _ _ h _ => h), vOwnV_st, vIs_st, trivial⟩) (Below.refl _ w1).drew ?_ ?_)
  · refine ⟨?_, ?_, ?_, ?_, ?_, ?_, ?_, ?_, ?_, ?_, ?_, ?_, ?_, trivial⟩
    · intro b a W hG hO hp
      refine wp_makes (v := .slice (some ⟨W.heap.size, 0, none⟩) 0 0) (W' := W.alloc (.cells #[] 43)) ?_ ⟨_, rfl, (by cases b with | false => exact ⟨_, rfl, hG.size, Whole.made _ _ _⟩ | true => trivial), newer_allocH _ _, below_next hG (newer_allocH _ _)⟩
      skip
      simp [execOp, go_sem]
    · intro b a W hG hO hp
      have h2 := hO.slot 2 (by kernel_rfl)
      refine wp_yields (v := .pointer (some ⟨w.heap.size, 2, none⟩)) ?_ ⟨_, rfl, (by cases b <;> rfl), Below.refl _ _, hG⟩
      simp [slotOf] at h2
      simp [execOp, go_sem, h2]
    · intro b a W hG hO hp
      have h8 : slotOf a 8 = .pointer (some ⟨w.heap.size, 2, none⟩) := by cases b <;> exact hp.1
      have c0 := keep_cell x2 hG
      refine wp_yields (v := .slice (some ⟨tb, tof, none⟩) n y.tc) ?_ ⟨_, rfl, (by cases b <;> rfl), Below.refl _ _, hG⟩
      simp [slotOf] at h8
      simp [execOp, go_sem, h8, c0]
    · intro b a W hG hO hp
      have h1 := hO.slot 1 (by kernel_rfl)
      refine wp_yields (v := vi i) ?_ ⟨_, rfl, (by cases b <;> rfl), Below.refl _ _, hG⟩
      simp [slotOf] at h1
      simp [execOp, go_sem, h1]
    · intro b a W hG hO hp
      have h9 : slotOf a 9 = .slice (some ⟨tb, tof, none⟩) n y.tc := by cases b <;> exact hp.1
      have h10 : slotOf a 10 = vi i := by cases b <;> exact hp.2.1
      refine wp_yields (v := .slice (some ⟨tb, tof, none⟩) i y.tc) ?_ ⟨_, rfl, (by cases b <;> rfl), Below.refl _ _, hG⟩
      simp [slotOf] at h9 h10
      simp [execOp, go_sem, h9, h10, hic]
    · intro a W hG hO hp
      have h7 := hp.1
      have h11 : slotOf a 11 = .slice (some ⟨tb, tof, none⟩) i y.tc := hp.2.1
      obtain ⟨nb, h7, hnb, hW⟩ := h7
      obtain ⟨hi0, hz0, hz1, hz2⟩ := HI.out
      have hl : (y.s.tools.take i).length = i := by rw [List.length_take]; have := HNN.out.1; omega
      refine wp_append_owncopy (enc := tlL) (size := 7) w1.heap.size (.tmp 7) (.tmp 11) 23 43 i0 (.agg #[vi 0, vi 0, vi 0, vi 0, vi 0, vi 0, vi 0]) 56 Try.underlying23 hi0 hz0 hz1 hz2 rfl (by omega) (by omega) (fun _ => rfl) rfl nb ((eval_slot a 7).trans h7) hnb hW (y.s.tools.take i) (some ⟨tb, tof, none⟩) y.tc (((eval_slot a 11).trans h11).trans (by rw [hl])) (by rw [hl]; omega) (row_take (HET.out.1 ▸ (HOK.out.next (newer_trans H1.out.1 hG)).tl) i) hG.size ?_
      intro B c' w' hown hb hlt
      exact ⟨_, rfl, ⟨B, c', rfl, hown⟩, hb, below_next hG hb⟩
    · intro b a W hG hO hp
      have h2 := hO.slot 2 (by kernel_rfl)
      refine wp_yields (v := .pointer (some ⟨w.heap.size, 2, none⟩)) ?_ ⟨_, rfl, (by cases b <;> rfl), Below.refl _ _, hG⟩
      simp [slotOf] at h2
      simp [execOp, go_sem, h2]
    · intro b a W hG hO hp
      have h13 : slotOf a 13 = .pointer (some ⟨w.heap.size, 2, none⟩) := by cases b <;> exact hp.1
      have c0 := keep_cell x2 hG
      refine wp_yields (v := .slice (some ⟨tb, tof, none⟩) n y.tc) ?_ ⟨_, rfl, (by cases b <;> rfl), Below.refl _ _, hG⟩
      simp [slotOf] at h13
      simp [execOp, go_sem, h13, c0]
    · intro b a W hG hO hp
      have h1 := hO.slot 1 (by kernel_rfl)
      refine wp_yields (v := vi i) ?_ ⟨_, rfl, (by cases b <;> rfl), Below.refl _ _, hG⟩
      simp [slotOf] at h1
      simp [execOp, go_sem, h1]
    · intro b a W hG hO hp
      have h15 : slotOf a 15 = vi i := by cases b <;> exact hp.1
      refine wp_yields (v := vi j) ?_ ⟨_, rfl, (by cases b <;> rfl), Below.refl _ _, hG⟩
      simp [slotOf] at h15
      simp [execOp, go_sem, h15, ej, ewj]
    · intro a W hG hO hp
      have h14 : slotOf a 14 = .slice (some ⟨tb, tof, none⟩) n y.tc := hp.1
      have h16 : slotOf a 16 = vi j := hp.2.1
      refine wp_yields (v := .slice A2 (n - j) (y.tc - j)) ?_ ⟨_, rfl, rfl, Below.refl _ _, hG⟩
      simp [slotOf] at h14 h16
      simp [execOp, go_sem, h14, h16, hjn, hA2]
    · intro a W hG hO hp
      have h12 := hp.1
      have h17 : slotOf a 17 = .slice A2 (n - j) (y.tc - j) := hp.2.1
      obtain ⟨A, c, h12, ho⟩ := h12
      obtain ⟨hi0, hz0, hz1, hz2⟩ := HI.out
      have hl : (y.s.tools.take i).length = i := by rw [List.length_take]; have := HNN.out.1; omega
      have hl2 : (y.s.tools.drop j).length = n - j := by rw [List.length_drop]; have := HNN.out.1; omega
      rw [hl] at h12 ho
      refine wp_append_all (enc := tlL) (size := 7) (w1.heap.size) (.tmp 12) (.tmp 17) 23 43 i0 (.agg #[vi 0, vi 0, vi 0, vi 0, vi 0, vi 0, vi 0]) 56 Try.underlying23 hi0 hz0 hz1 hz2 rfl (by omega) (fun _ => rfl) tlL_one rfl A i c ((y.s.tools.take i).flatMap tlL) ((eval_slot a 12).trans h12) ho (y.s.tools.drop j) A2 (y.tc - j) (((eval_slot a 17).trans h17).trans (by rw [hl2])) (HRD2.out W hG) (by rw [hl2]; unfold maxLen; omega) (by rw [hl2]; omega) hG.size ?_
      intro B c' w2 hown hgr hat
      have hown2 : w2.ownsRow w1.heap.size 43 7 (.slice B (n - 1) c') (n - 1) ((y.s.tools.eraseIdx i).flatMap tlL) := by
        rw [hl2, show i + (n - j) = n - 1 by have := HJ.out; omega, ← List.flatMap_append, HJ.out, ← List.eraseIdx_eq_take_drop_succ] at hown
        exact hown
      rw [hl2, show i + (n - j) = n - 1 by have := HJ.out; omega]
      exact ⟨_, rfl, ⟨B, c', rfl, hown2⟩, below_row hG ho hgr (Nat.le_refl _), fun j hj u hD => by
        match j, hj, hD with
        | 0, _, _ => trivial
        | 1, _, hD =>
          exact hD
        | 2, _, hD =>
          exact hD
        | 3, _, hD =>
          exact hD
        | 4, _, hD =>
          exact hD
        | 5, _, _ => trivial
        | 6, _, hD =>
          exact hD
        | 7, _, hD =>
          exact hD
        | 8, _, hD =>
          exact hD
        | 9, _, hD =>
          exact hD
        | 10, _, _ => trivial
        | 11, hj, _ => exact absurd rfl hj
        | 12, _, hD =>
          exact hD
        | (_ + 13), _, hD => exact hD⟩
    · intro b a W hG hO hp
      have h5 := hO.slot 5 (by kernel_rfl)
      refine wp_yields (v := .pointer (some ⟨ob, 2, none⟩)) ?_ ⟨_, rfl, (by cases b <;> rfl), Below.refl _ _, hG⟩
      simp [slotOf] at h5
      simp [execOp, go_sem, h5]
  · intro w5 hG
    rintro _ - _ rfl _ rfl _ rfl _ rfl _ - _ rfl _ rfl _ rfl _ rfl _ - _ ⟨TA, tc2, rfl, hto⟩ _ rfl
    change wpList _ _ _ _ _ _
    simp only [Act.put, List.setIfInBounds_toArray, List.set_cons_zero, List.set_cons_succ, List.drop_succ_cons, List.drop_zero]
    have H5 := Lib.hid (And.intro hG hto)
    have ho5 := H1.out.2.2.2.below hG H1.out.2.2.2.lt
    have z2 := ho5.at 2 (v := .slice y.ta y.s.tools.length y.tc) rfl
    have f2 := ho5.free 2
    clear hG hto ho5 x2 hA2 HRD2
    go_upto_region 3 with fail
    have hob : w.heap.size ≤ ob := by rw [HOB.out]; omega
    have hob2 : w.heap.size + 1 ≠ ob := by rw [HOB.out]; omega
    have hob0 : w.heap.size ≠ ob := by rw [HOB.out]; omega
    have hq5 := fun {k t : Nat} {cs : Array Value} (h : Whole w1 k t cs) => h.below H5.out.1 h.lt
    refine genQ (fun X => newer w X ∧ Whole X w.heap.size 26 (smC y) ∧ Whole X (w.heap.size + 1) 26 #[.slice none 0 0, vi 0, .slice none 0 0, vi 0, .slice none 0 0] ∧ Whole X ob 26 #[.slice y.sa y.s.spots.length y.sc, vi y.s.strain, .slice TA (n - 1) tc2, vi y.s.day, .slice y.ra y.s.reads.length y.rc] ∧ X.ownsRow w1.heap.size 43 7 (.slice TA (n - 1) tc2) (n - 1) ((y.s.tools.eraseIdx i).flatMap tlL)) ⟨(newer_trans H1.out.1 H5.out.1).setCell (p := ⟨ob, 2, none⟩) hob _, (hq5 H1.out.2.1).far (p := ⟨ob, 2, none⟩) hob0 _, (hq5 H1.out.2.2.1).far (p := ⟨ob, 2, none⟩) hob2 _, (hq5 H1.out.2.2.2).set 2 _, own_set H5.out.2 (own_ne H5.out.2 (hq5 H1.out.2.2.2) (by decide)) _⟩ ?_
    have HN1S := Lib.hid H1.out.1.size
    clear hq5 z2 f2 H5 H1 hob hob2 hob0 hic hjc hnc
    rintro w6 ⟨hn6, hx6, hr6, ho6, ht6⟩
    have H6 := Lib.hid (And.intro hn6 (And.intro hx6 (And.intro hr6 (And.intro ho6 ht6))))
    have x4 := hx6.at 4 (v := .slice y.ra y.s.reads.length y.rc) rfl
    rw [HET.out.2, HNN.out.2] at x4
    have hic : i ≤ y.rc := by omega
    obtain ⟨A3, hA3⟩ : ∃ A : Option Addr, (if y.rc = j then (some ⟨rb, ro, none⟩ : Option Addr) else some ⟨rb, ro + j, none⟩) = A := ⟨_, rfl⟩
    have HRD3 : Hid (∀ W, newer w6 W → Row intL 1 W W.heap.size A3 (y.s.reads.drop j)) := Lib.hid (fun W hW => by
      have h := (HOK.out.next (newer_trans hn6 hW)).rd
      rw [HET.out.2] at h
      refine row_drop h (fun hne => ?_)
      rw [← hA3, if_neg (fun e => hne (List.drop_eq_nil_of_le (by rw [HNN.out.2]; omega))), Nat.mul_one])
    clear hn6 hx6 hr6 ho6 ht6
    refine wp_words (by kernel_rfl) (region_turn 13 11 (by kernel_rfl) (by kernel_rfl) (by decide) (fun _ W => Below w6.heap.size w6 W) (pickB [vEmpT w6.heap.size 3, vIs (.pointer (some ⟨w.heap.size, 4, none⟩)), vIs (.slice (some ⟨rb, ro, none⟩) n y.rc), vIs (vi i), vIs (.slice (some ⟨rb, ro, none⟩) i y.rc), vOwn w6.heap.size 3 1 intL (y.s.reads.take i), vIs (.pointer (some ⟨w.heap.size, 4, none⟩)), vIs (.slice (some ⟨rb, ro, none⟩) n y.rc), vIs (vi i), vIs (vi j), vIs (.slice A3 (n - j) (y.rc - j)), (fun _ _ => True), vIs (.pointer (some ⟨ob, 4, none⟩))] [(fun _ _ => True), vIs (.pointer (some ⟨w.heap.size, 4, none⟩)), vIs (.slice (some ⟨rb, ro, none⟩) n y.rc), vIs (vi i), vIs (.slice (some ⟨rb, ro, none⟩) i y.rc), (fun _ _ => True), vIs (.pointer (some ⟨w.heap.size, 4, none⟩)), vIs (.slice (some ⟨rb, ro, none⟩) n y.rc), vIs (vi i), vIs (vi j), (fun _ _ => True), vOwnV w6.heap.size 3 1 (n - 1) ((y.s.reads.eraseIdx i).flatMap intL), vIs (.pointer (some ⟨ob, 4, none⟩))]) (pickB_stable ⟨vEmpT_st, vIs_st, vIs_st, vIs_st, vIs_st, vOwn_st, vIs_st, vIs_st, vIs_st, vIs_st, vIs_st, (fun _ _ _ h _ => h), vIs_st, trivial⟩ ⟨(fun _ _ _ h _ => h), vIs_st, vIs_st, vIs_st, vIs_st, (fun _ _ _ h _ => h), vIs_st, vIs_st, vIs_st, vIs_st, (fun _ _ _ h _ => h), vOwnV_st, vIs_st, trivial⟩) (Below.refl _ w6).drew ?_ ?_)
    · refine ⟨?_, ?_, ?_, ?_, ?_, ?_, ?_, ?_, ?_, ?_, ?_, ?_, ?_, trivial⟩
      · intro b a W hG hO hp
        refine wp_makes (v := .slice (some ⟨W.heap.size, 0, none⟩) 0 0) (W' := W.alloc (.cells #[] 3)) ?_ ⟨_, rfl, (by cases b with | false => exact ⟨_, rfl, hG.size, Whole.made _ _ _⟩ | true => trivial), newer_allocH _ _, below_next hG (newer_allocH _ _)⟩
        skip
        simp [execOp, go_sem]
      · intro b a W hG hO hp
        have h2 := hO.slot 2 (by kernel_rfl)
        refine wp_yields (v := .pointer (some ⟨w.heap.size, 4, none⟩)) ?_ ⟨_, rfl, (by cases b <;> rfl), Below.refl _ _, hG⟩
        simp [slotOf] at h2
        simp [execOp, go_sem, h2]
      · intro b a W hG hO hp
        have h21 : slotOf a 21 = .pointer (some ⟨w.heap.size, 4, none⟩) := by cases b <;> exact hp.1
        have c0 := keep_cell x4 hG
        refine wp_yields (v := .slice (some ⟨rb, ro, none⟩) n y.rc) ?_ ⟨_, rfl, (by cases b <;> rfl), Below.refl _ _, hG⟩
        simp [slotOf] at h21
        simp [execOp, go_sem, h21, c0]
      · intro b a W hG hO hp
        have h1 := hO.slot 1 (by kernel_rfl)
        refine wp_yields (v := vi i) ?_ ⟨_, rfl, (by cases b <;> rfl), Below.refl _ _, hG⟩
        simp [slotOf] at h1
        simp [execOp, go_sem, h1]
      · intro b a W hG hO hp
        have h22 : slotOf a 22 = .slice (some ⟨rb, ro, none⟩) n y.rc := by cases b <;> exact hp.1
        have h23 : slotOf a 23 = vi i := by cases b <;> exact hp.2.1
        refine wp_yields (v := .slice (some ⟨rb, ro, none⟩) i y.rc) ?_ ⟨_, rfl, (by cases b <;> rfl), Below.refl _ _, hG⟩
        simp [slotOf] at h22 h23
        simp [execOp, go_sem, h22, h23, hic]
      · intro a W hG hO hp
        have h20 := hp.1
        have h24 : slotOf a 24 = .slice (some ⟨rb, ro, none⟩) i y.rc := hp.2.1
        obtain ⟨nb, h20, hnb, hW⟩ := h20
        obtain ⟨hi0, hz0, hz1, hz2⟩ := HI3.out
        have hl : (y.s.reads.take i).length = i := by rw [List.length_take]; have := HNN.out.2; omega
        refine wp_append_owncopy (enc := intL) (size := 1) w6.heap.size (.tmp 20) (.tmp 24) 24 3 i3 (.int .i64 0) 8 Try.underlying24 hi0 hz0 hz1 hz2 rfl (by omega) (by omega) (fun _ => rfl) rfl nb ((eval_slot a 20).trans h20) hnb hW (y.s.reads.take i) (some ⟨rb, ro, none⟩) y.rc (((eval_slot a 24).trans h24).trans (by rw [hl])) (by rw [hl]; omega) (row_take (HET.out.2 ▸ (HOK.out.next (newer_trans H6.out.1 hG)).rd) i) hG.size ?_
        intro B c' w' hown hb hlt
        exact ⟨_, rfl, ⟨B, c', rfl, hown⟩, hb, below_next hG hb⟩
      · intro b a W hG hO hp
        have h2 := hO.slot 2 (by kernel_rfl)
        refine wp_yields (v := .pointer (some ⟨w.heap.size, 4, none⟩)) ?_ ⟨_, rfl, (by cases b <;> rfl), Below.refl _ _, hG⟩
        simp [slotOf] at h2
        simp [execOp, go_sem, h2]
      · intro b a W hG hO hp
        have h26 : slotOf a 26 = .pointer (some ⟨w.heap.size, 4, none⟩) := by cases b <;> exact hp.1
        have c0 := keep_cell x4 hG
        refine wp_yields (v := .slice (some ⟨rb, ro, none⟩) n y.rc) ?_ ⟨_, rfl, (by cases b <;> rfl), Below.refl _ _, hG⟩
        simp [slotOf] at h26
        simp [execOp, go_sem, h26, c0]
      · intro b a W hG hO hp
        have h1 := hO.slot 1 (by kernel_rfl)
        refine wp_yields (v := vi i) ?_ ⟨_, rfl, (by cases b <;> rfl), Below.refl _ _, hG⟩
        simp [slotOf] at h1
        simp [execOp, go_sem, h1]
      · intro b a W hG hO hp
        have h28 : slotOf a 28 = vi i := by cases b <;> exact hp.1
        refine wp_yields (v := vi j) ?_ ⟨_, rfl, (by cases b <;> rfl), Below.refl _ _, hG⟩
        simp [slotOf] at h28
        simp [execOp, go_sem, h28, ej, ewj]
      · intro a W hG hO hp
        have h27 : slotOf a 27 = .slice (some ⟨rb, ro, none⟩) n y.rc := hp.1
        have h29 : slotOf a 29 = vi j := hp.2.1
        refine wp_yields (v := .slice A3 (n - j) (y.rc - j)) ?_ ⟨_, rfl, rfl, Below.refl _ _, hG⟩
        simp [slotOf] at h27 h29
        simp [execOp, go_sem, h27, h29, hjn, hA3]
      · intro a W hG hO hp
        have h25 := hp.1
        have h30 : slotOf a 30 = .slice A3 (n - j) (y.rc - j) := hp.2.1
        obtain ⟨A, c, h25, ho⟩ := h25
        obtain ⟨hi0, hz0, hz1, hz2⟩ := HI3.out
        have hl : (y.s.reads.take i).length = i := by rw [List.length_take]; have := HNN.out.2; omega
        have hl2 : (y.s.reads.drop j).length = n - j := by rw [List.length_drop]; have := HNN.out.2; omega
        rw [hl] at h25 ho
        refine wp_append_all (enc := intL) (size := 1) (w6.heap.size) (.tmp 25) (.tmp 30) 24 3 i3 (.int .i64 0) 8 Try.underlying24 hi0 hz0 hz1 hz2 rfl (by omega) (fun _ => rfl) intL_one' rfl A i c ((y.s.reads.take i).flatMap intL) ((eval_slot a 25).trans h25) ho (y.s.reads.drop j) A3 (y.rc - j) (((eval_slot a 30).trans h30).trans (by rw [hl2])) (HRD3.out W hG) (by rw [hl2]; unfold maxLen; omega) (by rw [hl2]; omega) hG.size ?_
        intro B c' w2 hown hgr hat
        have hown2 : w2.ownsRow w6.heap.size 3 1 (.slice B (n - 1) c') (n - 1) ((y.s.reads.eraseIdx i).flatMap intL) := by
          rw [hl2, show i + (n - j) = n - 1 by have := HJ.out; omega, ← List.flatMap_append, HJ.out, ← List.eraseIdx_eq_take_drop_succ] at hown
          exact hown
        rw [hl2, show i + (n - j) = n - 1 by have := HJ.out; omega]
        exact ⟨_, rfl, ⟨B, c', rfl, hown2⟩, below_row hG ho hgr (Nat.le_refl _), fun j hj u hD => by
          match j, hj, hD with
          | 0, _, _ => trivial
          | 1, _, hD =>
            exact hD
          | 2, _, hD =>
            exact hD
          | 3, _, hD =>
            exact hD
          | 4, _, hD =>
            exact hD
          | 5, _, _ => trivial
          | 6, _, hD =>
            exact hD
          | 7, _, hD =>
            exact hD
          | 8, _, hD =>
            exact hD
          | 9, _, hD =>
            exact hD
          | 10, _, _ => trivial
          | 11, hj, _ => exact absurd rfl hj
          | 12, _, hD =>
            exact hD
          | (_ + 13), _, hD => exact hD⟩
      · intro b a W hG hO hp
        have h5 := hO.slot 5 (by kernel_rfl)
        refine wp_yields (v := .pointer (some ⟨ob, 4, none⟩)) ?_ ⟨_, rfl, (by cases b <;> rfl), Below.refl _ _, hG⟩
        simp [slotOf] at h5
        simp [execOp, go_sem, h5]
    · intro w7 hG
      rintro _ - _ rfl _ rfl _ rfl _ rfl _ - _ rfl _ rfl _ rfl _ rfl _ - _ ⟨RA, rc2, rfl, hto⟩ _ rfl
      change wpList _ _ _ _ _ _
      simp only [Act.put, List.setIfInBounds_toArray, List.set_cons_zero, List.set_cons_succ, List.drop_succ_cons, List.drop_zero]
      have H7 := Lib.hid (And.intro hG hto)
      have ho7 := H6.out.2.2.2.1.below hG H6.out.2.2.2.1.lt
      have z4 := ho7.at 4 (v := .slice y.ra y.s.reads.length y.rc) rfl
      have f4 := ho7.free 4
      clear hG hto ho7 x4 hA3 HRD3
      go_upto_region 4 with fail
      have hob : w.heap.size ≤ ob := by rw [HOB.out]; omega
      have hob2 : w.heap.size + 1 ≠ ob := by rw [HOB.out]; omega
      have hq7 := fun {k t : Nat} {cs : Array Value} (h : Whole w6 k t cs) => h.below H7.out.1 h.lt
      have ht7 := own_below H6.out.2.2.2.2 H7.out.1
      refine genQ (fun X => newer w X ∧ Whole X (w.heap.size + 1) 26 #[.slice none 0 0, vi 0, .slice none 0 0, vi 0, .slice none 0 0] ∧ Whole X ob 26 #[.slice y.sa y.s.spots.length y.sc, vi y.s.strain, .slice TA (n - 1) tc2, vi y.s.day, .slice RA (n - 1) rc2] ∧ X.ownsRow w.heap.size 43 7 (.slice TA (n - 1) tc2) (n - 1) ((y.s.tools.eraseIdx i).flatMap tlL) ∧ X.ownsRow w.heap.size 3 1 (.slice RA (n - 1) rc2) (n - 1) ((y.s.reads.eraseIdx i).flatMap intL)) ⟨(newer_trans H6.out.1 H7.out.1).setCell (p := ⟨ob, 4, none⟩) hob _, (hq7 H6.out.2.2.1).far (p := ⟨ob, 4, none⟩) hob2 _, (hq7 H6.out.2.2.2.1).set 4 _, own_set (own_more ht7 HN1S.out) (own_ne ht7 (hq7 H6.out.2.2.2.1) (by decide)) _, own_set (own_more H7.out.2 H6.out.1.size) (own_ne H7.out.2 (hq7 H6.out.2.2.2.1) (by decide)) _⟩ ?_
      clear hq7 ht7 z4 f4 H7 H6 hob hob2
      rintro w9 ⟨hn9, hr9, ho9, ht9, hi9⟩
      have H9 := Lib.hid (And.intro hn9 (And.intro hr9 (And.intro ht9 hi9)))
      have z0 := ho9.at 0 (v := .slice y.sa y.s.spots.length y.sc) rfl
      have z1 := ho9.at 1 (v := vi y.s.strain) rfl
      have z2 := ho9.at 2 (v := .slice TA (n - 1) tc2) rfl
      have z3 := ho9.at 3 (v := vi y.s.day) rfl
      have z4 := ho9.at 4 (v := .slice RA (n - 1) rc2) rfl
      have b0 := hr9.at 0 rfl
      have f0 := hr9.free 0
      have b1 := hr9.at 1 rfl
      have f1 := hr9.free 1
      have b2 := hr9.at 2 rfl
      have f2 := hr9.free 2
      have b3 := hr9.at 3 rfl
      have f3 := hr9.free 3
      have b4 := hr9.at 4 rfl
      have f4 := hr9.free 4
      clear hn9 hr9 ho9 ht9 hi9
      go_wp2_with fail
      have hw := (((((H9.out.2.1).set 0 (.slice y.sa y.s.spots.length y.sc)).set 1 (vi y.s.strain)).set 2 (.slice TA (n - 1) tc2)).set 3 (vi y.s.day)).set 4 (.slice RA (n - 1) rc2)
      have k0 := hw.at 0 (v := .slice y.sa y.s.spots.length y.sc) rfl
      have k1 := hw.at 1 (v := vi y.s.strain) rfl
      have k2 := hw.at 2 (v := .slice TA (n - 1) tc2) rfl
      have k3 := hw.at 3 (v := vi y.s.day) rfl
      have k4 := hw.at 4 (v := .slice RA (n - 1) rc2) rfl
      have hnn : newer w ((((((w9).setCell ⟨w.heap.size + 1, 0, none⟩ (.slice y.sa y.s.spots.length y.sc)).setCell ⟨w.heap.size + 1, 1, none⟩ (vi y.s.strain)).setCell ⟨w.heap.size + 1, 2, none⟩ (.slice TA (n - 1) tc2)).setCell ⟨w.heap.size + 1, 3, none⟩ (vi y.s.day)).setCell ⟨w.heap.size + 1, 4, none⟩ (.slice RA (n - 1) rc2)) := (((((H9.out.1).setCell (p := ⟨w.heap.size + 1, 0, none⟩) (by dsimp only; omega) (.slice y.sa y.s.spots.length y.sc)).setCell (p := ⟨w.heap.size + 1, 1, none⟩) (by dsimp only; omega) (vi y.s.strain)).setCell (p := ⟨w.heap.size + 1, 2, none⟩) (by dsimp only; omega) (.slice TA (n - 1) tc2)).setCell (p := ⟨w.heap.size + 1, 3, none⟩) (by dsimp only; omega) (vi y.s.day)).setCell (p := ⟨w.heap.size + 1, 4, none⟩) (by dsimp only; omega) (.slice RA (n - 1) rc2)
      have hto := own_put5 H9.out.2.1 H9.out.2.2.1 (by decide) (.slice y.sa y.s.spots.length y.sc) (vi y.s.strain) (.slice TA (n - 1) tc2) (vi y.s.day) (.slice RA (n - 1) rc2)
      have hin2 := own_put5 H9.out.2.1 H9.out.2.2.2 (by decide) (.slice y.sa y.s.spots.length y.sc) (vi y.s.strain) (.slice TA (n - 1) tc2) (vi y.s.day) (.slice RA (n - 1) rc2)
      have hz := drop_okR (HOK.out.next hnn).sp HNN.out.1 HNN.out.2 hi hto hin2
      have HZ := Lib.hid (And.intro hz hnn)
      exact bodyPost_ret (v := .agg #[.slice y.sa y.s.spots.length y.sc, vi y.s.strain, .slice TA (n - 1) tc2, vi y.s.day, .slice RA (n - 1) rc2]) (by simp [results, Try.results50, go_sem, k0, k1, k2, k3, k4]) rfl ⟨TA, tc2, RA, rc2, rfl, HZ.out.1, HZ.out.2⟩

end Go.Proofs.Ytpmafnifgegfbaa
