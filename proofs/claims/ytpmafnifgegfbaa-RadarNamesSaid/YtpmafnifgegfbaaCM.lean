/- RadarNames walked: it returns true, and leaves what was there. -/
import Derived.Test.YtpmafnifgegfbaaCL
import Derived.Test.YtpmafnifgegfbaaBH
import Derived.Test.YtpmafnifgegfbaaAC
namespace Go.Proofs.Ytpmafnifgegfbaa
open Go.RowKit Go.Shelf Go.Deep

theorem blame_at2 (y : Sm) (w : World) (hok : SmOk y w) (few : SmFew y) (L : List Int) (E : Int) (h1 : blameL y.s = L) (h2 : blameE y.s = E) : Calls Try.prog 49 #[smV y] w fun e w' => ∃ B d, e = .returned (.tuple #[.slice B L.length d, vi E]) ∧ Row intL 1 w' w'.heap.size B L ∧ newer w w' := by
  refine (blame_any y w hok few).mono ?_
  rintro e w' ⟨B, d, rfl, h, hb⟩
  rw [h1] at h
  rw [← map_vi] at h
  exact ⟨B, d, by rw [h1, h2], row_of_own (enc := intL) (size := 1) (by decide) (fun _ => rfl) h, hb⟩
theorem blame_at0 (y : Sm) (w : World) (hok : SmOk y w) (few : SmFew y) (E : Int) (h2 : blameE y.s = E) : Calls Try.prog 49 #[smV y] w fun e w' => ∃ v, e = .returned (.tuple #[v, vi E]) ∧ newer w w' := by
  refine (blame_any y w hok few).mono ?_
  rintro e w' ⟨B, d, rfl, h, hb⟩
  exact ⟨_, by rw [h2], hb⟩
theorem learn_at0 (y : Sm) (w : World) (hok : SmOk y w) (few : SmFew y) (E : Int) (h2 : learnE y.s = E) : Calls Try.prog 26 #[smV y] w fun e w' => ∃ v, e = .returned (.tuple #[v, vi E]) ∧ newer w w' := by
  refine (learn_all y w hok few).mono ?_
  rintro e w' ⟨B, d, rfl, h, hb⟩
  exact ⟨_, by rw [h2], hb⟩
theorem turns_at2 (y : Sm) (w : World) (hok : SmOk y w) (few : SmFew y) (L : List (List Int)) (h1 : turnLs y.s = L) (h2 : turnE y.s = 0) : Calls Try.prog 32 #[smV y] w fun e w' => ∃ xs A c, e = .returned (.tuple #[.slice A L.length c, vi 0]) ∧ xs.map (·.l) = L ∧ LlOk xs A w' ∧ newer w w' := by
  refine (turns_all y w hok few).mono ?_
  rintro e w' ⟨xs, A, c, rfl, h3, h4, hb⟩
  rw [h1] at h3
  have h5 := congrArg List.length h3
  rw [List.length_map] at h5
  exact ⟨xs, A, c, by rw [h2, h5], h3, h4.ok, hb⟩
theorem turns_at0 (y : Sm) (w : World) (hok : SmOk y w) (few : SmFew y) (n : Nat) (E : Int) (h1 : (turnLs y.s).length = n) (h2 : turnE y.s = E) : Calls Try.prog 32 #[smV y] w fun e w' => ∃ A c, e = .returned (.tuple #[.slice A n c, vi E]) ∧ newer w w' := by
  refine (turns_all y w hok few).mono ?_
  rintro e w' ⟨xs, A, c, rfl, h3, h4, hb⟩
  have h5 := congrArg List.length h3
  rw [List.length_map, h1] at h5
  exact ⟨A, c, by rw [h2, h5], hb⟩
theorem best_at2 (y : Sm) (ts : List Tl) (A : Option Addr) (c : Nat) (w : World) (hok : SmOk y w) (few : SmFew y) (hts : Row tlL 7 w w.heap.size A ts) (P1 P2 E : Int) (h1 : bestP y.s ts = (P1, P2)) (h2 : bestE y.s ts = E) : Calls Try.prog 53 #[smV y, .slice A ts.length c] w fun e w' => e = .returned (.tuple #[vi P1, vi P2, vi E]) ∧ newer w w' := by
  have h := best_any y ts A c w hok few hts
  rw [h1, h2] at h
  exact h
theorem best_none {s : Sd} {ts : List Tl} {E : Int} (h : bestE s ts = E) (h0 : E ≠ 0) : bestP s ts = (0, 0) := by unfold bestP; rw [h, if_neg h0]
theorem own_far {w : World} {q q2 : Nat} {e e2 : TypeId} {s s2 n n2 c2 g i : Nat} {v : Value} {ys ys2 : List Value} (hv : w.ownsRow q e s v n ys) (hr : w.ownsRow q2 e2 s2 (.slice (some ⟨g, 0, none⟩) n2 c2) n2 ys2) (hne : e ≠ e2) (u : Value) : (w.setCell ⟨g, i, none⟩ u).ownsRow q e s v n ys := by
  obtain ⟨cs, hc⟩ := own_cells hr
  exact own_set hv (own_ne hv hc hne) u
theorem intL_oneM (n : Int) : ∀ u ∈ intL n, u.oneCell' = true := by
  intro u hu
  obtain rfl := List.mem_singleton.1 hu
  rfl
theorem mk7 (w : World) : (Instr.makeSlice 37 (vi 7) (vi 7)).run Try.prog w = .ok (.slice (some ⟨w.heap.size, 0, none⟩) 7 7) (w.alloc (.cells #[vi 0, vi 0, vi 0, vi 0, vi 0, vi 0, vi 0, vi 0, vi 0, vi 0, vi 0, vi 0, vi 0, vi 0, vi 0, vi 0, vi 0, vi 0, vi 0, vi 0, vi 0, vi 0, vi 0, vi 0, vi 0, vi 0, vi 0, vi 0] 56)) := by kernel_rfl
theorem check_at (y : Sm) (w : World) (hok : SmOk y w) (few : SmFew y) (E : Int) (h : errN y.s = E) : Calls Try.prog 42 #[smV y] w fun e w' => e = .returned (vi E) ∧ newer w w' := by
  have h1 := checkSurvey_any y w hok few
  rw [h] at h1
  exact h1
theorem prove_at (y : Sm) (f : List Mv) (fa : Option Addr) (fc : Nat) (w : World) (hok : SmOk y w) (few : SmFew y) (hf : Row mvL 2 w w.heap.size fa f) (hfl : f.length ≤ 1000) (b : Bool) (h : proveB y.s f = b) : Calls Try.prog 44 #[smV y, .slice fa f.length fc] w fun e w' => e = .returned (.bool b) ∧ newer w w' := by
  have h1 := prove_any y f fa fc w hok few hf hfl
  rw [h] at h1
  exact h1
theorem own_capM {w : World} {base : Nat} {e : TypeId} {size n c : Nat} {A : Option Addr} {xs : List Value} (h : w.ownsRow base e size (.slice A n c) n xs) : n ≤ c := by
  rcases h.2 with ⟨_, h0⟩ | ⟨g, cap, cur, hv, _, _, hnc, _⟩
  · omega
  · injection hv with _ _ e3
    omega
theorem row_head {α : Type} {enc : α → List Value} {s : Nat} {w : World} {B : Nat} {A : Option Addr} {x : α} {l : List α} (h : Row enc s w B A (x :: l)) : Row enc s w B A [x] := fun _ => by
  obtain ⟨b, off, e, hb, hc⟩ := h (by simp)
  refine ⟨b, off, e, hb, fun i y hy j u hu => ?_⟩
  cases i with
  | zero => exact hc 0 y (by simpa using hy) j u hu
  | succ i => simp at hy
theorem valV (sa ta ra : Option Addr) (sc tc rc : Nat) : smV ⟨valS, sa, sc, ta, tc, ra, rc⟩ = .agg #[.slice sa 2 sc, vi 1, .slice ta 2 tc, vi 10, .slice ra 2 rc] := rfl
theorem few_v {s : Sd} {sa ta ra : Option Addr} {sc tc rc : Nat} (h : s.spots.length ≤ 10 ∧ s.tools.length ≤ 10 ∧ s.reads.length ≤ 10) : SmFew ⟨s, sa, sc, ta, tc, ra, rc⟩ := ⟨by show s.spots.length ≤ _; omega, by show s.tools.length ≤ _; omega, by show s.reads.length ≤ _; omega⟩
set_option maxRecDepth 100000 in
set_option maxHeartbeats 8000000 in
theorem radarNames_walk (w : World) : Calls Try.prog 16 #[] w fun e w' => e = .returned (.bool true) ∧ newer w w' := by
  go_enter Try.func16, Try.ntmps16
  go_wp2_with fail
  refine (valley_any _).mono ?_
  rintro e w1 ⟨z, rfl, hs, hz, hn⟩
  obtain ⟨zs, sa, sc, ta, tc, ra, rc⟩ := z
  have hs : zs = valS := hs
  subst hs
  have HV1 := Lib.hid (And.intro (newer_trans (newer_refl w) hn) hz)
  clear hz hn
  go_upto_region 2 with fail
  rw [valV]
  obtain ⟨xb, hxb⟩ : ∃ q, q = w1.heap.size := ⟨_, rfl⟩
  rw [← hxb]
  obtain ⟨gr, rfl, hgr⟩ := own_some HV1.out.2.rd (show 0 < 2 by decide)
  have HA1 := Lib.hid (newer_allocH w1 (.cells #[.slice sa 2 sc, vi 1, .slice ta 2 tc, vi 10, .slice (some ⟨gr, 0, none⟩) 2 rc] 40))
  refine genQ (fun X => newer w1 X ∧ Whole X xb 40 #[.slice sa 2 sc, vi 1, .slice ta 2 tc, vi 10, .slice (some ⟨gr, 0, none⟩) 2 rc] ∧ SvOwn ⟨valS, sa, sc, ta, tc, some ⟨gr, 0, none⟩, rc⟩ w.heap.size X) ⟨HA1.out, by rw [hxb]; exact Whole.made _ _ _, HV1.out.2.next HA1.out⟩ ?_
  have HXB := Lib.hid (show w1.heap.size ≤ xb by rw [hxb]; exact Nat.le_refl _)
  clear hxb HA1
  rintro w2 ⟨hn2, hx2, ho2⟩
  have H2 := Lib.hid (And.intro hn2 (And.intro hx2 ho2))
  have x4 := hx2.at 4 (v := .slice (some ⟨gr, 0, none⟩) 2 rc) rfl
  have HGR := Lib.hid hgr
  obtain ⟨cs2, hc2⟩ := own_cells ho2.rd
  have f1 := hc2.free 1
  obtain ⟨b', o', eb, _, rk⟩ := row1 (k := 1) (row_of_own (enc := intL) (size := 1) (by decide) (fun _ => rfl) ho2.rd) rfl
  injection eb with eb
  injection eb with eb1 eb2
  subst eb1 eb2
  rw [Nat.zero_add] at rk
  clear hn2 hx2 ho2 hc2 hgr
  go_upto_region 3 with fail
  have hown := own_setAt (off := 1) (u := vi 20) H2.out.2.2.rd
  have hne : xb ≠ gr := fun e => own_ne H2.out.2.2.rd H2.out.2.1 (by decide) (by rw [e]; rfl)
  refine genQ (fun X => newer w X ∧ Whole X xb 40 #[.slice sa 2 sc, vi 1, .slice ta 2 tc, vi 10, .slice (some ⟨gr, 0, none⟩) 2 rc] ∧ SmOk ⟨nS1, sa, sc, ta, tc, some ⟨gr, 0, none⟩, rc⟩ X) ⟨(newer_trans HV1.out.1 H2.out.1).setCell (p := ⟨gr, 1, none⟩) HGR.out _, H2.out.2.1.far (p := ⟨gr, 1, none⟩) hne _, ?_⟩ ?_
  · have hfar := fun {e : TypeId} {q s n : Nat} {v : Value} {ys : List Value} (hv : w2.ownsRow q e s v n ys) (hne : e ≠ 3) => own_far (i := 1) hv H2.out.2.2.rd hne (vi 20)
    exact ⟨row_of_own (enc := spL) (size := 4) (by decide) (fun _ => rfl) (hfar H2.out.2.2.sp (by decide)), row_of_own (enc := tlL) (size := 7) (by decide) (fun _ => rfl) (hfar H2.out.2.2.tl (by decide)), row_of_own (enc := intL) (size := 1) (by decide) (fun _ => rfl) hown⟩
  clear hown hne rk f1 x4 H2
  rintro w3 ⟨hn3, hx3, ho3⟩
  have H3 := Lib.hid (And.intro hn3 (And.intro hx3 ho3))
  have x0 := hx3.at 0 (v := .slice sa 2 sc) rfl
  have x1 := hx3.at 1 (v := vi 1) rfl
  have x2 := hx3.at 2 (v := .slice ta 2 tc) rfl
  have x3 := hx3.at 3 (v := vi 10) rfl
  have x4 := hx3.at 4 (v := .slice (some ⟨gr, 0, none⟩) 2 rc) rfl
  clear hn3 hx3 ho3
  go_wp2_with fail
  refine (blame_at2 ⟨nS1, sa, sc, ta, tc, some ⟨gr, 0, none⟩, rc⟩ _ H3.out.2.2 (few_v (by decide)) [1] 0 s1_blameL s1_blameE).mono ?_
  rintro e w4 ⟨BB, bd, rfl, hrow, hb⟩
  have H4 := Lib.hid (And.intro hrow (And.intro (newer_trans H3.out.1 hb) (And.intro (H3.out.2.1.below hb H3.out.2.1.lt) (H3.out.2.2.next hb))))
  clear hrow hb x0 x1 x2 x3 x4
  have x0 := H4.out.2.2.1.at 0 (v := .slice sa 2 sc) rfl
  have x1 := H4.out.2.2.1.at 1 (v := vi 1) rfl
  have x2 := H4.out.2.2.1.at 2 (v := .slice ta 2 tc) rfl
  have x3 := H4.out.2.2.1.at 3 (v := vi 10) rfl
  have x4 := H4.out.2.2.1.at 4 (v := .slice (some ⟨gr, 0, none⟩) 2 rc) rfl
  go_wp2_with fail
  refine (learn_at0 ⟨nS1, sa, sc, ta, tc, some ⟨gr, 0, none⟩, rc⟩ _ H4.out.2.2.2 (few_v (by decide)) 9 s1_learn).mono ?_
  rintro e w5 ⟨lv, rfl, hb⟩
  have H5 := Lib.hid (And.intro ((H4.out.1.below hb).more hb.size) (newer_trans H4.out.2.1 hb))
  clear hb x0 x1 x2 x3 x4 H3 H4 HV1 HGR HXB
  go_wp2_with fail
  refine (valley_any _).mono ?_
  rintro e w6 ⟨z, rfl, hs, hz, hn⟩
  obtain ⟨zs, sa, sc, ta, tc, ra, rc⟩ := z
  have hs : zs = valS := hs
  subst hs
  have HV6 := Lib.hid (And.intro (newer_trans (newer_refl w5) hn) hz)
  clear hz hn
  go_upto_region 6 with fail
  rw [valV]
  obtain ⟨xb, hxb⟩ : ∃ q, q = w6.heap.size := ⟨_, rfl⟩
  rw [← hxb]
  have HA1 := Lib.hid (newer_allocH w6 (.cells #[.slice sa 2 sc, vi 1, .slice ta 2 tc, vi 10, .slice ra 2 rc] 40))
  refine genQ (fun X => newer w5 X ∧ Whole X xb 40 #[.slice sa 2 sc, vi 1, .slice ta 2 tc, vi 10, .slice ra 2 rc] ∧ SvOwn ⟨valS, sa, sc, ta, tc, ra, rc⟩ w5.heap.size X) ⟨newer_trans HV6.out.1 HA1.out, by rw [hxb]; exact Whole.made _ _ _, HV6.out.2.next HA1.out⟩ ?_
  have HXB := Lib.hid (show w5.heap.size ≤ xb by rw [hxb]; exact HV6.out.1.size)
  clear hxb HA1
  rintro w7 ⟨hn7, hx7, ho7⟩
  have H7 := Lib.hid (And.intro hn7 (And.intro hx7 ho7))
  have x1 := hx7.at 1 (v := vi 1) rfl
  have f1 := hx7.free 1
  clear hn7 hx7 ho7
  go_upto_region 7 with fail
  refine genQ (fun X => newer w5 X ∧ Whole X xb 40 #[.slice sa 2 sc, vi 6, .slice ta 2 tc, vi 10, .slice ra 2 rc] ∧ SmOk ⟨nS2, sa, sc, ta, tc, ra, rc⟩ X) ⟨H7.out.1.setCell (p := ⟨xb, 1, none⟩) HXB.out _, H7.out.2.1.set 1 _, ?_⟩ ?_
  · have hfar := fun {e : TypeId} {q s n : Nat} {v : Value} {ys : List Value} (hv : w7.ownsRow q e s v n ys) (hne : e ≠ 40) => own_set (i := 1) hv (own_ne hv H7.out.2.1 hne) (vi 6)
    exact ⟨row_of_own (enc := spL) (size := 4) (by decide) (fun _ => rfl) (hfar H7.out.2.2.sp (by decide)), row_of_own (enc := tlL) (size := 7) (by decide) (fun _ => rfl) (hfar H7.out.2.2.tl (by decide)), row_of_own (enc := intL) (size := 1) (by decide) (fun _ => rfl) (hfar H7.out.2.2.rd (by decide))⟩
  clear x1 f1 H7
  rintro w8 ⟨hn8, hx8, ho8⟩
  have H8 := Lib.hid (And.intro hn8 (And.intro hx8 ho8))
  have x0 := hx8.at 0 (v := .slice sa 2 sc) rfl
  have x1 := hx8.at 1 (v := vi 6) rfl
  have x2 := hx8.at 2 (v := .slice ta 2 tc) rfl
  have x3 := hx8.at 3 (v := vi 10) rfl
  have x4 := hx8.at 4 (v := .slice ra 2 rc) rfl
  clear hn8 hx8 ho8
  go_wp2_with fail
  refine (turns_at2 ⟨nS2, sa, sc, ta, tc, ra, rc⟩ _ H8.out.2.2 (few_v (by decide)) [[0], [1]] s2_turnL s2_turnE).mono ?_
  rintro e w9 ⟨xs, TA, tq, rfl, hxs, hll, hb⟩
  have H9 := Lib.hid (And.intro hxs (And.intro hll (And.intro (newer_trans H8.out.1 hb) (And.intro (H8.out.2.1.below hb H8.out.2.1.lt) (H8.out.2.2.next hb)))))
  clear hxs hll hb x0 x1 x2 x3 x4 H8 HV6 HXB
  go_upto_region 9 with fail
  obtain ⟨tb, htb⟩ : ∃ q, q = w9.heap.size := ⟨_, rfl⟩
  rw [← htb]
  have HA2 := Lib.hid (newer_allocH w9 (.cells #[vi 0, vi 0, vi 1, vi 0, vi 0, vi 0, vi 0, vi 0, vi 1, vi 0, vi 0, vi 0, vi 0, vi 0] 112))
  refine genQ (fun X => newer w9 X ∧ Row tlL 7 X X.heap.size (some ⟨tb, 0, none⟩) [nB, nA]) ⟨HA2.out, by rw [htb]; exact row_of_whole (enc := tlL) (s := 7) (fun _ => rfl) (Whole.made w9 112 #[vi 0, vi 0, vi 1, vi 0, vi 0, vi 0, vi 0, vi 0, vi 1, vi 0, vi 0, vi 0, vi 0, vi 0]) rfl⟩ ?_
  clear htb HA2
  rintro w10 ⟨hn10, hr10⟩
  have H10 := Lib.hid (And.intro hn10 (And.intro hr10 (H9.out.2.2.2.1.below hn10 H9.out.2.2.2.1.lt)))
  clear hn10 hr10
  have x0 := H10.out.2.2.at 0 (v := .slice sa 2 sc) rfl
  have x1 := H10.out.2.2.at 1 (v := vi 6) rfl
  have x2 := H10.out.2.2.at 2 (v := .slice ta 2 tc) rfl
  have x3 := H10.out.2.2.at 3 (v := vi 10) rfl
  have x4 := H10.out.2.2.at 4 (v := .slice ra 2 rc) rfl
  go_wp2_with fail
  refine (best_at2 ⟨nS2, sa, sc, ta, tc, ra, rc⟩ [nB, nA] (some ⟨tb, 0, none⟩) 2 _ (H9.out.2.2.2.2.next H10.out.1) (few_v (by decide)) H10.out.2.1 1 1 0 s2_best s2_bestE).mono ?_
  rintro e w11 ⟨rfl, hb⟩
  have H11 := Lib.hid (And.intro H9.out.1 (And.intro (H9.out.2.1.next (newer_trans H10.out.1 hb)) (And.intro (newer_trans H5.out.2 (newer_trans H9.out.2.2.1 (newer_trans H10.out.1 hb))) ((H5.out.1.below (newer_trans H9.out.2.2.1 (newer_trans H10.out.1 hb))).more (newer_trans H9.out.2.2.1 (newer_trans H10.out.1 hb)).size))))
  clear hb x0 x1 x2 x3 x4 H9 H10 H5
  go_wp2_with fail
  have HA3 := Lib.hid (newer_allocH w11 (.cells #[vi 1] 3))
  refine (lawInts [1] [1] BB (some ⟨w11.heap.size, 0, none⟩) bd 1 _ (by decide) (by decide) ((H11.out.2.2.2.below HA3.out).more HA3.out.size) (row_of_whole (enc := intL) (s := 1) (fun _ => rfl) (Whole.made w11 3 #[vi 1]) rfl)).mono ?_
  rintro e w12 ⟨rfl, hb⟩
  have H12 := Lib.hid (newer_trans HA3.out hb)
  rw [decide_eq_true (rfl : ([1] : List Int) = [1])]
  clear hb HA3
  go_wp2_with fail
  have n1 := newer_allocH w12 (.cells #[vi 0] 3)
  have n2 := newer_allocH (w12.alloc (.cells #[vi 0] 3)) (.cells #[vi 1] 3)
  have n3 := newer_allocH ((w12.alloc (.cells #[vi 0] 3)).alloc (.cells #[vi 1] 3)) (.cells #[.slice (some ⟨w12.heap.size, 0, none⟩) 1 1, .slice (some ⟨w12.heap.size + 1, 0, none⟩) 1 1] 24)
  have hw1 := (Whole.made w12 3 #[vi 0]).below (newer_trans n2 n3) (by rw [World.size_alloc]; omega)
  have hw2 := Whole.made (w12.alloc (.cells #[vi 0] 3)) 3 #[vi 1]
  have hw2 := hw2.below n3 hw2.lt
  rw [World.size_alloc] at hw2
  have hw3 := Whole.made ((w12.alloc (.cells #[vi 0] 3)).alloc (.cells #[vi 1] 3)) 24 #[.slice (some ⟨w12.heap.size, 0, none⟩) 1 1, .slice (some ⟨w12.heap.size + 1, 0, none⟩) 1 1]
  rw [World.size_alloc, World.size_alloc] at hw3
  have hn13 := newer_trans n1 (newer_trans n2 n3)
  have hlz : LlOk [({ l := [0], a := some ⟨w12.heap.size, 0, none⟩, c := 1 } : Ln), ({ l := [1], a := some ⟨w12.heap.size + 1, 0, none⟩, c := 1 } : Ln)] (some ⟨w12.heap.size + 1 + 1, 0, none⟩) (((w12.alloc (.cells #[vi 0] 3)).alloc (.cells #[vi 1] 3)).alloc (.cells #[.slice (some ⟨w12.heap.size, 0, none⟩) 1 1, .slice (some ⟨w12.heap.size + 1, 0, none⟩) 1 1] 24)) :=
    ⟨row_of_whole (enc := lnL) (s := 1) (fun _ => rfl) hw3 rfl, fun x hx => by
      rcases List.mem_cons.1 hx with rfl | hx
      · exact row_of_whole (enc := intL) (s := 1) (fun _ => rfl) hw1 rfl
      · obtain rfl := List.mem_singleton.1 hx
        exact row_of_whole (enc := intL) (s := 1) (fun _ => rfl) hw2 rfl⟩
  have hxl : xs.length = 2 := by have h := congrArg List.length H11.out.1; rw [List.length_map] at h; exact h
  have hlen : ∀ x ∈ xs, x.l.length ≤ 1000 := fun x hx => by
    have h : x.l ∈ xs.map (·.l) := List.mem_map.2 ⟨x, hx, rfl⟩
    rw [H11.out.1] at h
    rcases List.mem_cons.1 h with h | h
    · rw [h]; decide
    · rw [List.mem_singleton.1 h]; decide
  have HT := turns_any xs [({ l := [0], a := some ⟨w12.heap.size, 0, none⟩, c := 1 } : Ln), ({ l := [1], a := some ⟨w12.heap.size + 1, 0, none⟩, c := 1 } : Ln)] TA (some ⟨w12.heap.size + 1 + 1, 0, none⟩) tq 2 _ (by rw [hxl]; decide) hlen (fun x hx => by
    rcases List.mem_cons.1 hx with rfl | hx
    · show 1 ≤ 1000; decide
    · obtain rfl := List.mem_singleton.1 hx
      show 1 ≤ 1000; decide) (H11.out.2.1.next (newer_trans H12.out hn13)) hlz
  rw [H11.out.1, hxl] at HT
  refine HT.mono ?_
  rintro e w13 ⟨rfl, hb⟩
  have H13 := Lib.hid (newer_trans H11.out.2.2.1 (newer_trans H12.out (newer_trans hn13 hb)))
  have hd : decide ([[(0 : Int)], [1]] = [({ l := [0], a := some ⟨w12.heap.size, 0, none⟩, c := 1 } : Ln), ({ l := [1], a := some ⟨w12.heap.size + 1, 0, none⟩, c := 1 } : Ln)].map (·.l)) = true := decide_eq_true rfl
  rw [hd]
  clear n1 n2 n3 hw1 hw2 hw3 hn13 hlz hxl hlen HT hb hd H11 H12
  go_wp2_with fail
  refine (valley_any _).mono ?_
  rintro e w14 ⟨z, rfl, hs, hz, hn⟩
  obtain ⟨zs, sa, sc, ta, tc, ra, rc⟩ := z
  have hs : zs = valS := hs
  subst hs
  have HV14 := Lib.hid (And.intro (newer_trans H13.out hn) hz)
  clear hz hn
  go_wp2_with fail
  refine (blame_at0 ⟨valS, sa, sc, ta, tc, ra, rc⟩ _ HV14.out.2.ok (few_v (by decide)) 7 val_blame).mono ?_
  rintro e w15 ⟨bv, rfl, hb⟩
  have H15 := Lib.hid (newer_trans HV14.out.1 hb)
  clear hb HV14 H13
  go_wp2_with fail
  refine (valley_any _).mono ?_
  rintro e w16 ⟨z, rfl, hs, hz, hn⟩
  obtain ⟨zs, sa, sc, ta, tc, ra, rc⟩ := z
  have hs : zs = valS := hs
  subst hs
  have HV16 := Lib.hid (And.intro (newer_trans H15.out hn) hz)
  clear hz hn
  go_wp2_with fail
  refine (best_at2 ⟨valS, sa, sc, ta, tc, ra, rc⟩ [] none 0 _ HV16.out.2.ok (few_v (by decide)) (fun h => absurd rfl h) 0 0 2 (best_none val_best0 (by decide)) val_best0).mono ?_
  rintro e w17 ⟨rfl, hb⟩
  have H17 := Lib.hid (newer_trans HV16.out.1 hb)
  clear hb HV16 H15
  go_wp2_with fail
  refine (valley_any _).mono ?_
  rintro e w18 ⟨z, rfl, hs, hz, hn⟩
  obtain ⟨zs, sa, sc, ta, tc, ra, rc⟩ := z
  have hs : zs = valS := hs
  subst hs
  have HV18 := Lib.hid (And.intro (newer_trans H17.out hn) hz)
  clear hz hn
  go_wp2_with fail
  have HA4 := Lib.hid (newer_allocH w18 (.cells (tlC nX) 112))
  refine (best_at2 ⟨valS, sa, sc, ta, tc, ra, rc⟩ [nX] (some ⟨w18.heap.size, 0, none⟩) 1 _ (HV18.out.2.ok.next HA4.out) (few_v (by decide)) (row_of_whole (enc := tlL) (s := 7) (fun _ => rfl) (Whole.made w18 112 (tlC nX)) rfl) 0 0 1 (best_none val_best1 (by decide)) val_best1).mono ?_
  rintro e w19 ⟨rfl, hb⟩
  have H19 := Lib.hid (newer_trans HV18.out.1 (newer_trans HA4.out hb))
  clear hb HV18 H17 HA4
  go_wp2_with fail
  refine (valley_any _).mono ?_
  rintro e w20 ⟨z, rfl, hs, hz, hn⟩
  obtain ⟨zs, sa, sc, ta, tc, ra, rc⟩ := z
  have hs : zs = valS := hs
  subst hs
  have HV20 := Lib.hid (And.intro (newer_trans H19.out hn) hz)
  clear hz hn
  go_upto_region 16 with fail
  rw [valV]
  obtain ⟨xb, hxb⟩ : ∃ q, q = w20.heap.size := ⟨_, rfl⟩
  rw [← hxb]
  obtain ⟨gs, rfl, hgs⟩ := own_some HV20.out.2.sp (show 0 < 2 by decide)
  have HA1 := Lib.hid (newer_allocH w20 (.cells #[.slice (some ⟨gs, 0, none⟩) 2 sc, vi 1, .slice ta 2 tc, vi 10, .slice ra 2 rc] 40))
  refine genQ (fun X => newer w X ∧ Whole X xb 40 #[.slice (some ⟨gs, 0, none⟩) 2 sc, vi 1, .slice ta 2 tc, vi 10, .slice ra 2 rc] ∧ SvOwn ⟨valS, some ⟨gs, 0, none⟩, sc, ta, tc, ra, rc⟩ w19.heap.size X) ⟨newer_trans HV20.out.1 HA1.out, by rw [hxb]; exact Whole.made _ _ _, HV20.out.2.next HA1.out⟩ ?_
  have HXB := Lib.hid (show w.heap.size ≤ xb ∧ w.heap.size ≤ gs by have h1 := HV20.out.1.size; have h2 := H19.out.size; omega)
  clear hxb HA1 hgs
  rintro w21 ⟨hn21, hx21, ho21⟩
  have hna := newer_allocH w21 (.cells #[vi 3, vi 20] 3)
  have hx22 := hx21.alloc (.cells #[vi 3, vi 20] 3)
  have H21 := Lib.hid (And.intro (newer_trans hn21 hna) (And.intro hx22 (And.intro (ho21.next hna) (Whole.made w21 3 #[vi 3, vi 20]))))
  have x4 := hx22.at 4 (v := .slice ra 2 rc) rfl
  have f4 := hx22.free 4
  clear hn21 hx21 ho21 hna hx22
  go_upto_region 17 with fail
  obtain ⟨rb, hrb⟩ : ∃ q, q = w21.heap.size := ⟨_, rfl⟩
  rw [← hrb] at H21 ⊢
  have HRX : Hid (rb ≠ xb) := Lib.hid (fun e => by have h1 := H21.out.2.1; have h2 := H21.out.2.2.2; rw [← e] at h1; unfold Whole at h1 h2; rw [h1] at h2; injection h2 with h2; injection h2 with _ h2; cases h2)
  refine genQ (fun X => newer w X ∧ Whole X xb 40 #[.slice (some ⟨gs, 0, none⟩) 2 sc, vi 1, .slice ta 2 tc, vi 10, .slice (some ⟨rb, 0, none⟩) 2 2] ∧ X.ownsRow w19.heap.size 56 4 (.slice (some ⟨gs, 0, none⟩) 2 sc) 2 (valS.spots.flatMap spL) ∧ X.ownsRow w19.heap.size 112 7 (.slice ta 2 tc) 2 (valS.tools.flatMap tlL) ∧ Whole X rb 3 #[vi 3, vi 20]) ⟨H21.out.1.setCell (p := ⟨xb, 4, none⟩) HXB.out.1 _, H21.out.2.1.set 4 _, own_set H21.out.2.2.1.sp (own_ne H21.out.2.2.1.sp H21.out.2.1 (by decide)) _, own_set H21.out.2.2.1.tl (own_ne H21.out.2.2.1.tl H21.out.2.1 (by decide)) _, H21.out.2.2.2.far (p := ⟨xb, 4, none⟩) HRX.out _⟩ ?_
  clear x4 f4 hrb H21 HV20 H19
  rintro w22 ⟨hn22, hx22, hs22, ht22, hr22⟩
  have H22 := Lib.hid (And.intro hn22 (And.intro hx22 (And.intro hs22 (And.intro ht22 hr22))))
  have x0 := hx22.at 0 (v := .slice (some ⟨gs, 0, none⟩) 2 sc) rfl
  obtain ⟨cs2, hc2⟩ := own_cells hs22
  have f0 := hc2.free 0
  have f1 := hc2.free 1
  have HGX : Hid (xb ≠ gs ∧ rb ≠ gs) := Lib.hid ⟨fun e => own_ne hs22 hx22 (by decide) (by rw [e]; rfl), fun e => own_ne hs22 hr22 (by decide) (by rw [e]; rfl)⟩
  obtain ⟨b', o', eb, _, s0, s1, s2, s3⟩ := row4 (k := 0) (row_of_own (enc := spL) (size := 4) (l := valS.spots) (by decide) (fun _ => rfl) hs22) rfl
  injection eb with eb
  injection eb with eb1 eb2
  subst eb1 eb2
  clear hn22 hx22 hs22 ht22 hr22 hc2 s2 s3
  go_upto_region 18 with fail
  have hown := own_setAt (off := 1) (u := vi 2) (own_setAt (off := 0) (u := vi 0) H22.out.2.2.1)
  have hg := H22.out.2.2.1
  have hg1 := own_setAt (off := 0) (u := vi 0) hg
  refine genQ (fun X => newer w X ∧ Whole X xb 40 #[.slice (some ⟨gs, 0, none⟩) 2 sc, vi 1, .slice ta 2 tc, vi 10, .slice (some ⟨rb, 0, none⟩) 2 2] ∧ SmOk ⟨nS3, some ⟨gs, 0, none⟩, sc, ta, tc, some ⟨rb, 0, none⟩, 2⟩ X) ⟨(H22.out.1.setCell (p := ⟨gs, 0, none⟩) HXB.out.2 _).setCell (p := ⟨gs, 1, none⟩) HXB.out.2 _, (H22.out.2.1.far (p := ⟨gs, 0, none⟩) HGX.out.1 _).far (p := ⟨gs, 1, none⟩) HGX.out.1 _, ⟨row_of_own (enc := spL) (size := 4) (by decide) (fun _ => rfl) hown, row_of_own (enc := tlL) (size := 7) (by decide) (fun _ => rfl) (own_far (i := 1) (own_far (i := 0) H22.out.2.2.2.1 hg (by decide) (vi 0)) hg1 (by decide) (vi 2)), row_of_whole (enc := intL) (s := 1) (fun _ => rfl) ((H22.out.2.2.2.2.far (p := ⟨gs, 0, none⟩) HGX.out.2 _).far (p := ⟨gs, 1, none⟩) HGX.out.2 _) rfl⟩⟩ ?_
  clear hown hg hg1 x0 f0 f1 s0 s1 H22 HGX HXB HRX
  rintro w23 ⟨hn23, hx23, ho23⟩
  have H23 := Lib.hid (And.intro hn23 ho23)
  have x0 := hx23.at 0 (v := .slice (some ⟨gs, 0, none⟩) 2 sc) rfl
  have x1 := hx23.at 1 (v := vi 1) rfl
  have x2 := hx23.at 2 (v := .slice ta 2 tc) rfl
  have x3 := hx23.at 3 (v := vi 10) rfl
  have x4 := hx23.at 4 (v := .slice (some ⟨rb, 0, none⟩) 2 2) rfl
  clear hn23 hx23 ho23
  go_wp2_with fail
  refine (blame_at0 ⟨nS3, some ⟨gs, 0, none⟩, sc, ta, tc, some ⟨rb, 0, none⟩, 2⟩ _ H23.out.2 (few_v (by decide)) 9 s3_blameE).mono ?_
  rintro e w24 ⟨bv2, rfl, hb⟩
  have H24 := Lib.hid (newer_trans H23.out.1 hb)
  clear hb x0 x1 x2 x3 x4 H23
  go_wp2_with fail
  refine (valley_any _).mono ?_
  rintro e w25 ⟨z, rfl, hs, hz, hn⟩
  obtain ⟨zs, sam, scm, tam, tcm, ram, rcm⟩ := z
  have hs : zs = valS := hs
  subst hs
  have HV25 := Lib.hid (And.intro (newer_trans H24.out hn) hz)
  clear hz hn
  go_upto_region 20 with fail
  rw [valV]
  obtain ⟨xm, hxm⟩ : ∃ q, q = w25.heap.size := ⟨_, rfl⟩
  rw [← hxm]
  have HA1 := Lib.hid (newer_allocH w25 (.cells #[.slice sam 2 scm, vi 1, .slice tam 2 tcm, vi 10, .slice ram 2 rcm] 40))
  refine genQ (fun X => newer w X ∧ Whole X xm 40 #[.slice sam 2 scm, vi 1, .slice tam 2 tcm, vi 10, .slice ram 2 rcm] ∧ SvOwn ⟨valS, sam, scm, tam, tcm, ram, rcm⟩ w24.heap.size X) ⟨newer_trans HV25.out.1 HA1.out, by rw [hxm]; exact Whole.made _ _ _, HV25.out.2.next HA1.out⟩ ?_
  have HXM := Lib.hid (show w.heap.size ≤ xm by rw [hxm]; exact HV25.out.1.size)
  clear hxm HA1
  rintro w26 ⟨hn26, hx26, ho26⟩
  have hna := newer_allocH w26 (.cells #[vi 0, vi 0, vi 0, vi 0, vi 0, vi 0, vi 0, vi 0, vi 0, vi 0, vi 0, vi 0, vi 0, vi 0, vi 0, vi 0, vi 0, vi 0, vi 0, vi 0, vi 0, vi 0, vi 0, vi 0, vi 0, vi 0, vi 0, vi 0] 56)
  have hx27 := hx26.alloc (.cells #[vi 0, vi 0, vi 0, vi 0, vi 0, vi 0, vi 0, vi 0, vi 0, vi 0, vi 0, vi 0, vi 0, vi 0, vi 0, vi 0, vi 0, vi 0, vi 0, vi 0, vi 0, vi 0, vi 0, vi 0, vi 0, vi 0, vi 0, vi 0] 56)
  have H26 := Lib.hid (And.intro (newer_trans hn26 hna) (And.intro hx27 (And.intro (ho26.next hna) (Whole.made w26 56 #[vi 0, vi 0, vi 0, vi 0, vi 0, vi 0, vi 0, vi 0, vi 0, vi 0, vi 0, vi 0, vi 0, vi 0, vi 0, vi 0, vi 0, vi 0, vi 0, vi 0, vi 0, vi 0, vi 0, vi 0, vi 0, vi 0, vi 0, vi 0]))))
  have x0 := hx27.at 0 (v := .slice sam 2 scm) rfl
  have f0 := hx27.free 0
  clear hn26 hx26 ho26 hna hx27
  go_upto_region 21 with fail
  rw [mk7]
  go_upto_region 21 with fail
  obtain ⟨mb, hmb⟩ : ∃ q, q = w26.heap.size := ⟨_, rfl⟩
  rw [← hmb] at H26 ⊢
  have HMX : Hid (mb ≠ xm) := Lib.hid (fun e => by have h1 := H26.out.2.1; have h2 := H26.out.2.2.2; rw [← e] at h1; unfold Whole at h1 h2; rw [h1] at h2; injection h2 with h2; injection h2 with _ h2; cases h2)
  refine genQ (fun X => newer w X ∧ Whole X xm 40 #[.slice (some ⟨mb, 0, none⟩) 7 7, vi 1, .slice tam 2 tcm, vi 10, .slice ram 2 rcm] ∧ SmOk ⟨nS4, some ⟨mb, 0, none⟩, 7, tam, tcm, ram, rcm⟩ X) ⟨H26.out.1.setCell (p := ⟨xm, 0, none⟩) HXM.out _, H26.out.2.1.set 0 _, ?_⟩ ?_
  · have hfar := fun {e : TypeId} {q s n : Nat} {v : Value} {ys : List Value} (hv : (w26.alloc (.cells #[vi 0, vi 0, vi 0, vi 0, vi 0, vi 0, vi 0, vi 0, vi 0, vi 0, vi 0, vi 0, vi 0, vi 0, vi 0, vi 0, vi 0, vi 0, vi 0, vi 0, vi 0, vi 0, vi 0, vi 0, vi 0, vi 0, vi 0, vi 0] 56)).ownsRow q e s v n ys) (hne : e ≠ 40) => own_set (i := 0) hv (own_ne hv H26.out.2.1 hne) (.slice (some ⟨mb, 0, none⟩) 7 7)
    exact ⟨row_of_whole (enc := spL) (s := 4) (fun _ => rfl) (H26.out.2.2.2.far (p := ⟨xm, 0, none⟩) HMX.out _) rfl, row_of_own (enc := tlL) (size := 7) (by decide) (fun _ => rfl) (hfar H26.out.2.2.1.tl (by decide)), row_of_own (enc := intL) (size := 1) (by decide) (fun _ => rfl) (hfar H26.out.2.2.1.rd (by decide))⟩
  clear x0 f0 hmb H26 HMX HXM HV25 H24
  rintro w27 ⟨hn27, hx27, ho27⟩
  have HMANY := Lib.hid (And.intro hn27 (And.intro hx27 ho27))
  clear hn27 hx27 ho27
  go_wp2_with fail
  refine (valley_any _).mono ?_
  rintro e w28 ⟨z, rfl, hs, hz, hn⟩
  obtain ⟨zs, sal, scl, tal, tcl, ral, rcl⟩ := z
  have hs : zs = valS := hs
  subst hs
  have HV28 := Lib.hid (And.intro (newer_trans (newer_refl w27) hn) hz)
  clear hz hn
  go_upto_region 22 with fail
  rw [valV]
  obtain ⟨xl, hxl⟩ : ∃ q, q = w28.heap.size := ⟨_, rfl⟩
  rw [← hxl]
  have HA1 := Lib.hid (newer_allocH w28 (.cells #[.slice sal 2 scl, vi 1, .slice tal 2 tcl, vi 10, .slice ral 2 rcl] 40))
  refine genQ (fun X => newer w27 X ∧ Whole X xl 40 #[.slice sal 2 scl, vi 1, .slice tal 2 tcl, vi 10, .slice ral 2 rcl] ∧ SvOwn ⟨valS, sal, scl, tal, tcl, ral, rcl⟩ w27.heap.size X) ⟨newer_trans HV28.out.1 HA1.out, by rw [hxl]; exact Whole.made _ _ _, HV28.out.2.next HA1.out⟩ ?_
  have HXL := Lib.hid (show w27.heap.size ≤ xl by rw [hxl]; exact HV28.out.1.size)
  clear hxl HA1
  rintro w29 ⟨hn29, hx29, ho29⟩
  have H29 := Lib.hid (And.intro hn29 (And.intro hx29 (And.intro ho29.sp (And.intro ho29.tl ho29.rd))))
  clear hn29 hx29 ho29 HV28
  obtain ⟨i0, hi0, hz0, hz1, hz2⟩ := info_parts info_tool
  have HI := Lib.hid (And.intro hi0 (And.intro hz0 (And.intro hz1 hz2)))
  clear hi0 hz0 hz1 hz2
  obtain ⟨i3, hi0, hz0, hz1, hz2⟩ := info_parts info_int
  have HI3 := Lib.hid (And.intro hi0 (And.intro hz0 (And.intro hz1 hz2)))
  clear hi0 hz0 hz1 hz2
  have hna := newer_allocH w29 (.cells (tlC nT) 112)
  have hxa := H29.out.2.1.alloc (.cells (tlC nT) 112)
  have HTO := Lib.hid (own_below H29.out.2.2.2.1 hna)
  have HXW := Lib.hid hxa
  have HSPR := Lib.hid (own_below H29.out.2.2.1 hna)
  have HRDR := Lib.hid (own_below H29.out.2.2.2.2 hna)
  have HNA := Lib.hid (newer_trans H29.out.1 hna)
  have HROW := Lib.hid (row_of_whole (enc := tlL) (s := 7) (fun _ => rfl) (l := [nT]) (Whole.made w29 112 (tlC nT)) rfl)
  have x2 := H29.out.2.1.at 2 (v := .slice tal 2 tcl) rfl
  clear hna hxa
  go_upto_region 23 with (at_builtin; (refine wpList_plain rfl fun _ hK => wp_append_all (enc := tlL) (size := 7) w27.heap.size (.tmp 135) (.tmp 137) 38 112 i0 (.agg #[vi 0, vi 0, vi 0, vi 0, vi 0, vi 0, vi 0]) 56 Try.underlying38 HI.out.1 HI.out.2.1 HI.out.2.2.1 HI.out.2.2.2 rfl (by omega) (fun _ => rfl) tlL_one rfl tal 2 tcl (valS.tools.flatMap tlL) rfl HTO.out [nT] (some ⟨w29.heap.size, 0, none⟩) 1 rfl HROW.out (by decide) (by decide) HNA.out.size fun tb1 tq1 w29e hown hgr hat => hK _ _ ?_); have HTE := Lib.hid hown; have HGR := Lib.hid hgr; have hx := (HXW.out).grown hgr (own_ne HTO.out HXW.out (by decide)).symm; have q2 := hx.at 2 (v := .slice tal 2 tcl) rfl; have f2 := hx.free 2; have HXE := Lib.hid hx; clear hown hgr hat hx)
  have hspe := HSPR.out.kept HGR.out (own_apart HSPR.out HTO.out (by decide))
  have hrde := HRDR.out.kept HGR.out (own_apart HRDR.out HTO.out (by decide))
  refine genQ (fun Y => newer w27 Y ∧ Whole Y xl 40 #[.slice sal 2 scl, vi 1, .slice tb1 3 tq1, vi 10, .slice ral 2 rcl] ∧ Y.ownsRow w27.heap.size 56 4 (.slice sal 2 scl) 2 (valS.spots.flatMap spL) ∧ Y.ownsRow w27.heap.size 112 7 (.slice tb1 3 tq1) 3 ((valS.tools ++ [nT]).flatMap tlL) ∧ Y.ownsRow w27.heap.size 3 1 (.slice ral 2 rcl) 2 (valS.reads.flatMap intL)) ⟨(below_row HNA.out HTO.out HGR.out (Nat.le_refl _)).setCell (p := ⟨xl, 2, none⟩) HXL.out _, HXE.out.set 2 _, own_set hspe (own_ne hspe HXE.out (by decide)) _, by rw [List.flatMap_append]; exact own_set HTE.out (own_ne HTE.out HXE.out (by decide)) _, own_set hrde (own_ne hrde HXE.out (by decide)) _⟩ ?_
  clear hspe hrde q2 f2 x2 HTO HXW HSPR HRDR HNA HROW HTE HGR HXE H29
  rintro w29m hmm
  have HM := Lib.hid hmm
  clear hmm
  have hna := newer_allocH w29m (.cells #[vi 0] 3)
  have hxa := HM.out.2.1.alloc (.cells #[vi 0] 3)
  have HTO := Lib.hid (own_below HM.out.2.2.2.2 hna)
  have HXW := Lib.hid hxa
  have HSPR := Lib.hid (own_below HM.out.2.2.1 hna)
  have HRDR := Lib.hid (own_below HM.out.2.2.2.1 hna)
  have HNA := Lib.hid (newer_trans HM.out.1 hna)
  have HROW := Lib.hid (row_of_whole (enc := intL) (s := 1) (fun _ => rfl) (l := [(0 : Int)]) (Whole.made w29m 3 #[vi 0]) rfl)
  have x4 := HM.out.2.1.at 4 (v := .slice ral 2 rcl) rfl
  clear hna hxa
  go_upto_region 24 with (at_builtin; (refine wpList_plain rfl fun _ hK => wp_append_all (enc := intL) (size := 1) w27.heap.size (.tmp 141) (.tmp 142) 24 3 i3 (.int .i64 0) 8 Try.underlying24 HI3.out.1 HI3.out.2.1 HI3.out.2.2.1 HI3.out.2.2.2 rfl (by omega) (fun _ => rfl) intL_oneM rfl ral 2 rcl (valS.reads.flatMap intL) rfl HTO.out [(0 : Int)] (some ⟨w29m.heap.size, 0, none⟩) 1 rfl HROW.out (by decide) (by decide) HNA.out.size fun rb1 rq1 w29h hown hgr hat => hK _ _ ?_); have HTE := Lib.hid hown; have HGR := Lib.hid hgr; have hx := (HXW.out).grown hgr (own_ne HTO.out HXW.out (by decide)).symm; have q2 := hx.at 4 (v := .slice ral 2 rcl) rfl; have f2 := hx.free 4; have HXE := Lib.hid hx; clear hown hgr hat hx)
  have hspe := HSPR.out.kept HGR.out (own_apart HSPR.out HTO.out (by decide))
  have hrde := HRDR.out.kept HGR.out (own_apart HRDR.out HTO.out (by decide))
  refine genQ (fun Y => newer w27 Y ∧ Whole Y xl 40 #[.slice sal 2 scl, vi 1, .slice tb1 3 tq1, vi 10, .slice rb1 3 rq1] ∧ Y.ownsRow w27.heap.size 56 4 (.slice sal 2 scl) 2 (valS.spots.flatMap spL) ∧ Y.ownsRow w27.heap.size 112 7 (.slice tb1 3 tq1) 3 ((valS.tools ++ [nT]).flatMap tlL) ∧ Y.ownsRow w27.heap.size 3 1 (.slice rb1 3 rq1) 3 ((valS.reads ++ [0]).flatMap intL)) ⟨(below_row HNA.out HTO.out HGR.out (Nat.le_refl _)).setCell (p := ⟨xl, 4, none⟩) HXL.out _, HXE.out.set 4 _, own_set hspe (own_ne hspe HXE.out (by decide)) _, own_set hrde (own_ne hrde HXE.out (by decide)) _, by rw [List.flatMap_append]; exact own_set HTE.out (own_ne HTE.out HXE.out (by decide)) _⟩ ?_
  clear hspe hrde q2 f2 x4 HTO HXW HSPR HRDR HNA HROW HTE HGR HXE HM
  rintro w30 hmm
  have H30 := Lib.hid hmm
  clear hmm
  have x0 := H30.out.2.1.at 0 (v := .slice sal 2 scl) rfl
  have x1 := H30.out.2.1.at 1 (v := vi 1) rfl
  have x2 := H30.out.2.1.at 2 (v := .slice tb1 3 tq1) rfl
  have x3 := H30.out.2.1.at 3 (v := vi 10) rfl
  have x4 := H30.out.2.1.at 4 (v := .slice rb1 3 rq1) rfl
  go_wp2_with fail
  refine (turns_at0 ⟨nL1, sal, scl, tb1, tq1, rb1, rq1⟩ _ ⟨row_of_own (enc := spL) (size := 4) (by decide) (fun _ => rfl) H30.out.2.2.1, row_of_own (enc := tlL) (size := 7) (by decide) (fun _ => rfl) H30.out.2.2.2.1, row_of_own (enc := intL) (size := 1) (by decide) (fun _ => rfl) H30.out.2.2.2.2⟩ (few_v (by decide)) 50 0 l1_turnL l1_turnE).mono ?_
  rintro e w31 ⟨NA, na, rfl, hb⟩
  have H31 := Lib.hid (And.intro (newer_trans H30.out.1 hb) (And.intro (H30.out.2.1.below hb H30.out.2.1.lt) (And.intro (own_below H30.out.2.2.1 hb) (And.intro (own_below H30.out.2.2.2.1 hb) (own_below H30.out.2.2.2.2 hb)))))
  clear hb x0 x1 x2 x3 x4 H30
  go_upto_region 25 with fail
  have hna := newer_allocH w31 (.cells (tlC nT) 112)
  have hxa := H31.out.2.1.alloc (.cells (tlC nT) 112)
  have HTO := Lib.hid (own_below H31.out.2.2.2.1 hna)
  have HXW := Lib.hid hxa
  have HSPR := Lib.hid (own_below H31.out.2.2.1 hna)
  have HRDR := Lib.hid (own_below H31.out.2.2.2.2 hna)
  have HNA := Lib.hid (newer_trans H31.out.1 hna)
  have HROW := Lib.hid (row_of_whole (enc := tlL) (s := 7) (fun _ => rfl) (l := [nT]) (Whole.made w31 112 (tlC nT)) rfl)
  have x2 := H31.out.2.1.at 2 (v := .slice tb1 3 tq1) rfl
  clear hna hxa
  go_upto_region 26 with (at_builtin; (refine wpList_plain rfl fun _ hK => wp_append_all (enc := tlL) (size := 7) w27.heap.size (.tmp 151) (.tmp 153) 38 112 i0 (.agg #[vi 0, vi 0, vi 0, vi 0, vi 0, vi 0, vi 0]) 56 Try.underlying38 HI.out.1 HI.out.2.1 HI.out.2.2.1 HI.out.2.2.2 rfl (by omega) (fun _ => rfl) tlL_one rfl tb1 3 tq1 ((valS.tools ++ [nT]).flatMap tlL) rfl HTO.out [nT] (some ⟨w31.heap.size, 0, none⟩) 1 rfl HROW.out (by decide) (by decide) HNA.out.size fun tb2 tq2 w31e hown hgr hat => hK _ _ ?_); have HTE := Lib.hid hown; have HGR := Lib.hid hgr; have hx := (HXW.out).grown hgr (own_ne HTO.out HXW.out (by decide)).symm; have q2 := hx.at 2 (v := .slice tb1 3 tq1) rfl; have f2 := hx.free 2; have HXE := Lib.hid hx; clear hown hgr hat hx)
  have hspe := HSPR.out.kept HGR.out (own_apart HSPR.out HTO.out (by decide))
  have hrde := HRDR.out.kept HGR.out (own_apart HRDR.out HTO.out (by decide))
  refine genQ (fun Y => newer w27 Y ∧ Whole Y xl 40 #[.slice sal 2 scl, vi 1, .slice tb2 4 tq2, vi 10, .slice rb1 3 rq1] ∧ Y.ownsRow w27.heap.size 56 4 (.slice sal 2 scl) 2 (valS.spots.flatMap spL) ∧ Y.ownsRow w27.heap.size 112 7 (.slice tb2 4 tq2) 4 (((valS.tools ++ [nT]) ++ [nT]).flatMap tlL) ∧ Y.ownsRow w27.heap.size 3 1 (.slice rb1 3 rq1) 3 ((valS.reads ++ [0]).flatMap intL)) ⟨(below_row HNA.out HTO.out HGR.out (Nat.le_refl _)).setCell (p := ⟨xl, 2, none⟩) HXL.out _, HXE.out.set 2 _, own_set hspe (own_ne hspe HXE.out (by decide)) _, by rw [List.flatMap_append]; exact own_set HTE.out (own_ne HTE.out HXE.out (by decide)) _, own_set hrde (own_ne hrde HXE.out (by decide)) _⟩ ?_
  clear hspe hrde q2 f2 x2 HTO HXW HSPR HRDR HNA HROW HTE HGR HXE H31
  rintro w31m hmm
  have HM := Lib.hid hmm
  clear hmm
  have hna := newer_allocH w31m (.cells #[vi 0] 3)
  have hxa := HM.out.2.1.alloc (.cells #[vi 0] 3)
  have HTO := Lib.hid (own_below HM.out.2.2.2.2 hna)
  have HXW := Lib.hid hxa
  have HSPR := Lib.hid (own_below HM.out.2.2.1 hna)
  have HRDR := Lib.hid (own_below HM.out.2.2.2.1 hna)
  have HNA := Lib.hid (newer_trans HM.out.1 hna)
  have HROW := Lib.hid (row_of_whole (enc := intL) (s := 1) (fun _ => rfl) (l := [(0 : Int)]) (Whole.made w31m 3 #[vi 0]) rfl)
  have x4 := HM.out.2.1.at 4 (v := .slice rb1 3 rq1) rfl
  clear hna hxa
  go_upto_region 27 with (at_builtin; (refine wpList_plain rfl fun _ hK => wp_append_all (enc := intL) (size := 1) w27.heap.size (.tmp 157) (.tmp 158) 24 3 i3 (.int .i64 0) 8 Try.underlying24 HI3.out.1 HI3.out.2.1 HI3.out.2.2.1 HI3.out.2.2.2 rfl (by omega) (fun _ => rfl) intL_oneM rfl rb1 3 rq1 ((valS.reads ++ [0]).flatMap intL) rfl HTO.out [(0 : Int)] (some ⟨w31m.heap.size, 0, none⟩) 1 rfl HROW.out (by decide) (by decide) HNA.out.size fun rb2 rq2 w31h hown hgr hat => hK _ _ ?_); have HTE := Lib.hid hown; have HGR := Lib.hid hgr; have hx := (HXW.out).grown hgr (own_ne HTO.out HXW.out (by decide)).symm; have q2 := hx.at 4 (v := .slice rb1 3 rq1) rfl; have f2 := hx.free 4; have HXE := Lib.hid hx; clear hown hgr hat hx)
  have hspe := HSPR.out.kept HGR.out (own_apart HSPR.out HTO.out (by decide))
  have hrde := HRDR.out.kept HGR.out (own_apart HRDR.out HTO.out (by decide))
  refine genQ (fun Y => newer w27 Y ∧ Whole Y xl 40 #[.slice sal 2 scl, vi 1, .slice tb2 4 tq2, vi 10, .slice rb2 4 rq2] ∧ Y.ownsRow w27.heap.size 56 4 (.slice sal 2 scl) 2 (valS.spots.flatMap spL) ∧ Y.ownsRow w27.heap.size 112 7 (.slice tb2 4 tq2) 4 (((valS.tools ++ [nT]) ++ [nT]).flatMap tlL) ∧ Y.ownsRow w27.heap.size 3 1 (.slice rb2 4 rq2) 4 (((valS.reads ++ [0]) ++ [0]).flatMap intL)) ⟨(below_row HNA.out HTO.out HGR.out (Nat.le_refl _)).setCell (p := ⟨xl, 4, none⟩) HXL.out _, HXE.out.set 4 _, own_set hspe (own_ne hspe HXE.out (by decide)) _, own_set hrde (own_ne hrde HXE.out (by decide)) _, by rw [List.flatMap_append]; exact own_set HTE.out (own_ne HTE.out HXE.out (by decide)) _⟩ ?_
  clear hspe hrde q2 f2 x4 HTO HXW HSPR HRDR HNA HROW HTE HGR HXE HM
  rintro w32 hmm
  have H32 := Lib.hid hmm
  clear hmm
  have x0 := H32.out.2.1.at 0 (v := .slice sal 2 scl) rfl
  have x1 := H32.out.2.1.at 1 (v := vi 1) rfl
  have x2 := H32.out.2.1.at 2 (v := .slice tb2 4 tq2) rfl
  have x3 := H32.out.2.1.at 3 (v := vi 10) rfl
  have x4 := H32.out.2.1.at 4 (v := .slice rb2 4 rq2) rfl
  go_wp2_with fail
  refine (turns_at0 ⟨nL2, sal, scl, tb2, tq2, rb2, rq2⟩ _ ⟨row_of_own (enc := spL) (size := 4) (by decide) (fun _ => rfl) H32.out.2.2.1, row_of_own (enc := tlL) (size := 7) (by decide) (fun _ => rfl) H32.out.2.2.2.1, row_of_own (enc := intL) (size := 1) (by decide) (fun _ => rfl) H32.out.2.2.2.2⟩ (few_v (by decide)) _ 3 rfl l2_turnE).mono ?_
  rintro e w33 ⟨NB, nb, rfl, hb⟩
  have H33 := Lib.hid (newer_trans H32.out.1 hb)
  clear hb x0 x1 x2 x3 x4 H32 HXL
  go_wp2_with fail
  refine (valley_any _).mono ?_
  rintro e w34 ⟨z, rfl, hs, hz, hn⟩
  obtain ⟨zs, sas, scs, tas, tcs, ras, rcs⟩ := z
  have hs : zs = valS := hs
  subst hs
  have HV34 := Lib.hid (And.intro (newer_trans H33.out hn) hz)
  clear hz hn
  go_upto_region 29 with fail
  rw [valV]
  obtain ⟨xo, hxo⟩ : ∃ q, q = w34.heap.size := ⟨_, rfl⟩
  rw [← hxo]
  obtain ⟨gq, rfl, -⟩ := own_some HV34.out.2.rd (show 0 < 2 by decide)
  have HA1 := Lib.hid (newer_allocH w34 (.cells #[.slice sas 2 scs, vi 1, .slice tas 2 tcs, vi 10, .slice (some ⟨gq, 0, none⟩) 2 rcs] 40))
  refine genQ (fun X => newer w27 X ∧ Whole X xo 40 #[.slice sas 2 scs, vi 1, .slice tas 2 tcs, vi 10, .slice (some ⟨gq, 0, none⟩) 2 rcs] ∧ SvOwn ⟨valS, sas, scs, tas, tcs, some ⟨gq, 0, none⟩, rcs⟩ w33.heap.size X) ⟨newer_trans HV34.out.1 HA1.out, by rw [hxo]; exact Whole.made _ _ _, HV34.out.2.next HA1.out⟩ ?_
  have HXO := Lib.hid (show w27.heap.size ≤ xo by rw [hxo]; exact HV34.out.1.size)
  clear hxo HA1 HV34 H33
  rintro w35 ⟨hn35, hx35, ho35⟩
  have H35 := Lib.hid (And.intro hn35 (And.intro hx35 ho35))
  have x4 := hx35.at 4 (v := .slice (some ⟨gq, 0, none⟩) 2 rcs) rfl
  have f4 := hx35.free 4
  have hrc : 1 ≤ rcs := by have h := own_capM ho35.rd; have h2 : 2 ≤ rcs := h; omega
  clear hn35 hx35 ho35
  go_upto_region 30 with fail
  refine genQ (fun X => newer w27 X ∧ Whole X xo 40 #[.slice sas 2 scs, vi 1, .slice tas 2 tcs, vi 10, .slice (some ⟨gq, 0, none⟩) 1 rcs] ∧ SmOk ⟨nS5, sas, scs, tas, tcs, some ⟨gq, 0, none⟩, rcs⟩ X) ⟨H35.out.1.setCell (p := ⟨xo, 4, none⟩) HXO.out _, H35.out.2.1.set 4 _, ?_⟩ ?_
  · have hfar := fun {e : TypeId} {q s n : Nat} {v : Value} {ys : List Value} (hv : w35.ownsRow q e s v n ys) (hne : e ≠ 40) => own_set (i := 4) hv (own_ne hv H35.out.2.1 hne) (.slice (some ⟨gq, 0, none⟩) 1 rcs)
    exact ⟨row_of_own (enc := spL) (size := 4) (by decide) (fun _ => rfl) (hfar H35.out.2.2.sp (by decide)), row_of_own (enc := tlL) (size := 7) (by decide) (fun _ => rfl) (hfar H35.out.2.2.tl (by decide)), row_head (row_of_own (enc := intL) (size := 1) (by decide) (fun _ => rfl) (hfar H35.out.2.2.rd (by decide)))⟩
  clear x4 f4 hrc H35 HXO
  rintro w36 ⟨hn36, hx36, ho36⟩
  have H36 := Lib.hid (And.intro hn36 (And.intro hx36 ho36))
  have hxm := HMANY.out.2.1.below hn36 HMANY.out.2.1.lt
  have x0 := hxm.at 0 (v := .slice (some ⟨mb, 0, none⟩) 7 7) rfl
  have x1 := hxm.at 1 (v := vi 1) rfl
  have x2 := hxm.at 2 (v := .slice tam 2 tcm) rfl
  have x3 := hxm.at 3 (v := vi 10) rfl
  have x4 := hxm.at 4 (v := .slice ram 2 rcm) rfl
  clear hn36 hx36 ho36 hxm
  go_wp2_with fail
  refine (check_at ⟨nS4, some ⟨mb, 0, none⟩, 7, tam, tcm, ram, rcm⟩ _ (HMANY.out.2.2.next H36.out.1) (few_v (by decide)) 3 s4_err).mono ?_
  rintro e w37 ⟨rfl, hb⟩
  have H37 := Lib.hid (And.intro (newer_trans H36.out.1 hb) (And.intro (H36.out.2.1.below hb H36.out.2.1.lt) (H36.out.2.2.next hb)))
  clear hb x0 x1 x2 x3 x4 H36
  have x0 := H37.out.2.1.at 0 (v := .slice sas 2 scs) rfl
  have x1 := H37.out.2.1.at 1 (v := vi 1) rfl
  have x2 := H37.out.2.1.at 2 (v := .slice tas 2 tcs) rfl
  have x3 := H37.out.2.1.at 3 (v := vi 10) rfl
  have x4 := H37.out.2.1.at 4 (v := .slice (some ⟨gq, 0, none⟩) 1 rcs) rfl
  go_wp2_with fail
  refine (check_at ⟨nS5, sas, scs, tas, tcs, some ⟨gq, 0, none⟩, rcs⟩ _ H37.out.2.2 (few_v (by decide)) 1 s5_err).mono ?_
  rintro e w38 ⟨rfl, hb⟩
  have H38 := Lib.hid (newer_trans H37.out.1 hb)
  clear hb x0 x1 x2 x3 x4 H37
  go_wp2_with fail
  refine (check_at ⟨nS0, none, 0, none, 0, none, 0⟩ _ ⟨fun h => absurd rfl h, fun h => absurd rfl h, fun h => absurd rfl h⟩ (few_v (by decide)) 1 s0_err).mono ?_
  rintro e w39 ⟨rfl, hb⟩
  have H39 := Lib.hid (newer_trans H38.out hb)
  clear hb H38
  go_wp2_with fail
  refine (valley_any _).mono ?_
  rintro e w40 ⟨z, rfl, hs, hz, hn⟩
  obtain ⟨zs, sap, scp, tap, tcp, rap, rcp⟩ := z
  have hs : zs = valS := hs
  subst hs
  have HV40 := Lib.hid (And.intro (newer_trans H39.out hn) hz)
  clear hz hn
  go_wp2_with fail
  have HA5 := Lib.hid (newer_allocH w40 (.cells #[vi 5, vi 5, vi 5, vi 6] 116))
  refine (prove_at ⟨valS, sap, scp, tap, tcp, rap, rcp⟩ [(5, 5), (5, 6)] (some ⟨w40.heap.size, 0, none⟩) 2 _ (HV40.out.2.ok.next HA5.out) (few_v (by decide)) (row_of_whole (enc := mvL) (s := 2) (fun _ => rfl) (Whole.made w40 116 #[vi 5, vi 5, vi 5, vi 6]) rfl) (by decide) true val_prove1).mono ?_
  rintro e w41 ⟨rfl, hb⟩
  have H41 := Lib.hid (newer_trans HV40.out.1 (newer_trans HA5.out hb))
  clear hb HV40 HA5 H39
  go_wp2_with fail
  refine (valley_any _).mono ?_
  rintro e w42 ⟨z, rfl, hs, hz, hn⟩
  obtain ⟨zs, sar, scr, tar, tcr, rar, rcr⟩ := z
  have hs : zs = valS := hs
  subst hs
  have HV42 := Lib.hid (And.intro (newer_trans H41.out hn) hz)
  clear hz hn
  go_wp2_with fail
  have HA5 := Lib.hid (newer_allocH w42 (.cells #[vi 5, vi 4, vi 5, vi 6] 116))
  refine (prove_at ⟨valS, sar, scr, tar, tcr, rar, rcr⟩ [(5, 4), (5, 6)] (some ⟨w42.heap.size, 0, none⟩) 2 _ (HV42.out.2.ok.next HA5.out) (few_v (by decide)) (row_of_whole (enc := mvL) (s := 2) (fun _ => rfl) (Whole.made w42 116 #[vi 5, vi 4, vi 5, vi 6]) rfl) (by decide) false val_prove2).mono ?_
  rintro e w43 ⟨rfl, hb⟩
  have H43 := Lib.hid (newer_trans HV42.out.1 (newer_trans HA5.out hb))
  clear hb HV42 HA5 H41
  go_wp2_with fail
  refine (awake_any _).mono ?_
  rintro e wz ⟨rfl, hb⟩
  have HZ := Lib.hid (newer_trans HMANY.out.1 (newer_trans H43.out hb))
  clear hb
  go_wp2_with fail
  go_ret
  exact ⟨rfl, HZ.out⟩

end Go.Proofs.Ytpmafnifgegfbaa
