/- RadarEnds walked: it returns true, and leaves what was there. -/
import Derived.Test.YtpmafnifgegfbaaAU
import Derived.Test.YtpmafnifgegfbaaGZ
namespace Go.Proofs.Ytpmafnifgegfbaa
open Go.RowKit Go.Shelf Go.Deep

theorem Whole.offRow {W : World} {g b : Nat} {t : TypeId} {cs : Array Value} (h : Whole W g t cs) (hne : g ≠ b) (vs : Array Value) : Whole (W.setRow b vs) g t cs := h.same (setRow_other W b g vs hne)
theorem below_setRow {B : Nat} {w W : World} {b : Nat} (h : Below B w W) (hb : B ≤ b) (vs : Array Value) : Below B w (W.setRow b vs) :=
  ⟨h.os, h.tape, h.output, by simpa [World.setRow] using h.size, fun i hi => by
    rw [← h.block i hi]
    simp only [World.setRow, Array.getElem?_modify]
    rw [if_neg (by omega)]⟩
theorem flat_set4 {v : Value} : ∀ (c : Nat) (l : List Sp) (i : Nat) (x x' : Sp), c < 4 → l[i]? = some x → spL x' = (spL x).set c v → (l.flatMap spL).set (i * 4 + c) v = (l.set i x').flatMap spL
  | c, [], i, x, x', _, h, _ => by simp at h
  | c, a :: l, 0, x, x', hc, h, h2 => by
    simp only [List.getElem?_cons_zero, Option.some.injEq] at h
    subst h
    rw [List.set_cons_zero, List.flatMap_cons, List.flatMap_cons, h2, Nat.zero_mul, Nat.zero_add, List.set_append_left _ _ (by exact hc)]
  | c, a :: l, i + 1, x, x', hc, h, h2 => by
    simp only [List.getElem?_cons_succ] at h
    have e : (spL a).length = 4 := rfl
    rw [List.set_cons_succ, List.flatMap_cons, List.flatMap_cons, ← flat_set4 c l i x x' hc h h2, List.set_append_right _ _ (by rw [e, Nat.add_mul]; omega), e]
    rw [show (i + 1) * 4 + c - 4 = i * 4 + c by rw [Nat.add_mul]; omega]
/-- A spot stored into a row of one's own. -/
theorem own_put_spot {w : World} {base g n c k : Nat} {ty : TypeId} {l : List Sp} {p e : Sp} (h : w.ownsRow base ty 4 (.slice (some ⟨g, 0, none⟩) n c) n (l.flatMap spL)) (hk : l[k]? = some p) :
    ((((w.setCell ⟨g, k * 4, none⟩ (vi e.x.lo)).setCell ⟨g, k * 4 + 1, none⟩ (vi e.x.hi)).setCell ⟨g, k * 4 + 2, none⟩ (vi e.y.lo)).setCell ⟨g, k * 4 + 3, none⟩ (vi e.y.hi)).ownsRow base ty 4 (.slice (some ⟨g, 0, none⟩) n c) n ((l.set k e).flatMap spL) := by
  have hkl := (List.getElem?_eq_some_iff.1 hk).1
  have at_ : ∀ q : Sp, (l.set k q)[k]? = some q := fun q => by rw [List.getElem?_set, if_pos rfl, if_pos hkl]
  have h0 := own_setAt (off := k * 4) (u := vi e.x.lo) h
  rw [show k * 4 = k * 4 + 0 from rfl, flat_set4 (v := vi e.x.lo) 0 l k p ⟨⟨e.x.lo, p.x.hi⟩, p.y⟩ (by decide) hk rfl] at h0
  have h1 := own_setAt (off := k * 4 + 1) (u := vi e.x.hi) h0
  rw [flat_set4 (v := vi e.x.hi) 1 (l.set k ⟨⟨e.x.lo, p.x.hi⟩, p.y⟩) k ⟨⟨e.x.lo, p.x.hi⟩, p.y⟩ ⟨⟨e.x.lo, e.x.hi⟩, p.y⟩ (by decide) (at_ _) rfl, List.set_set] at h1
  have h2 := own_setAt (off := k * 4 + 2) (u := vi e.y.lo) h1
  rw [flat_set4 (v := vi e.y.lo) 2 (l.set k ⟨⟨e.x.lo, e.x.hi⟩, p.y⟩) k ⟨⟨e.x.lo, e.x.hi⟩, p.y⟩ ⟨⟨e.x.lo, e.x.hi⟩, ⟨e.y.lo, p.y.hi⟩⟩ (by decide) (at_ _) rfl, List.set_set] at h2
  have h3 := own_setAt (off := k * 4 + 3) (u := vi e.y.hi) h2
  rw [flat_set4 (v := vi e.y.hi) 3 (l.set k ⟨⟨e.x.lo, e.x.hi⟩, ⟨e.y.lo, p.y.hi⟩⟩) k ⟨⟨e.x.lo, e.x.hi⟩, ⟨e.y.lo, p.y.hi⟩⟩ ⟨⟨e.x.lo, e.x.hi⟩, ⟨e.y.lo, e.y.hi⟩⟩ (by decide) (at_ _) rfl, List.set_set] at h3
  exact h3
theorem learn_cases {s : Sd} (h : SdOk s) : (learnE s = 9 ∧ learnL s = []) ∨ (learnE s = 0 ∧ learnL s = knL s ∧ okS s (freeL s) = true) := by
  have e := err_iff.2 h
  cases ho : okS s (freeL s) with
  | true =>
    have e1 : learnE s = 0 := by unfold learnE; rw [if_pos e, if_pos ho]
    exact .inr ⟨e1, by unfold learnL; rw [if_pos e1], rfl⟩
  | false =>
    have e1 : learnE s = 9 := by unfold learnE; rw [if_pos e, if_neg (by rw [ho]; decide)]
    exact .inl ⟨e1, by unfold learnL; rw [if_neg (by rw [e1]; decide)]⟩
set_option maxRecDepth 100000 in
set_option maxHeartbeats 4000000 in
theorem radarEnds_walk (y : Sm) (an : Nat) (w : World) (hok : SmOk y w) (han : an ≤ 255) : Calls Try.prog 5 #[smV y, .int .u8 (an : Int)] w fun e w' => e = .returned (.bool true) ∧ newer w w' := by
  have hnw := newer_allocH w (.cells (smC y) 26)
  have hxb := Whole.made w 26 (smC y)
  have HRD := Lib.hid (ready_any y _ (hok.next hnw))
  have HN0 := Lib.hid (And.intro hnw hxb)
  have HOK0 := Lib.hid hok
  have x0 := hxb.at 0 (v := .slice y.sa y.s.spots.length y.sc) rfl
  have x1 := hxb.at 1 (v := vi y.s.strain) rfl
  have x2 := hxb.at 2 (v := .slice y.ta y.s.tools.length y.tc) rfl
  have x3 := hxb.at 3 (v := vi y.s.day) rfl
  have x4 := hxb.at 4 (v := .slice y.ra y.s.reads.length y.rc) rfl
  clear hok hnw hxb
  cases ht : readyB y.s with
  | false =>
    rw [ht] at HRD
    clear ht
    go_enter Try.func5, Try.ntmps5
    go_wp2_with fail
    refine (HRD.out).mono ?_
    rintro e w1 ⟨rfl, hb1⟩
    have HN := Lib.hid (newer_trans HN0.out.1 hb1)
    clear hb1 HRD HN0 x0 x1 x2 x3 x4
    go_wp2_with fail
    refine (awake_any _).mono ?_
    rintro e wk ⟨rfl, hb⟩
    have HK := Lib.hid (newer_trans (HN.out) hb)
    clear hb
    go_wp2_with fail
    go_ret
    exact ⟨rfl, HK.out⟩
  | true =>
    have HFW := Lib.hid (ready_parts ht).1
    have HSD := Lib.hid (ready_parts ht).2.1
    rw [ht] at HRD
    clear ht
    go_enter Try.func5, Try.ntmps5
    go_wp2_with fail
    refine (HRD.out).mono ?_
    rintro e w1 ⟨rfl, hb1⟩
    have hw := HN0.out.2.below hb1 HN0.out.2.lt
    have hn1 := newer_trans HN0.out.1 hb1
    have HOK := Lib.hid (HOK0.out.next hn1)
    have HB := Lib.hid hw
    have HN := Lib.hid hn1
    clear hb1 HRD HN0 x0 x1 x2 x3 x4 hn1
    have x0 := hw.at 0 (v := .slice y.sa y.s.spots.length y.sc) rfl
    have x1 := hw.at 1 (v := vi y.s.strain) rfl
    have x2 := hw.at 2 (v := .slice y.ta y.s.tools.length y.tc) rfl
    have x3 := hw.at 3 (v := vi y.s.day) rfl
    have x4 := hw.at 4 (v := .slice y.ra y.s.reads.length y.rc) rfl
    clear hw
    go_wp2_with fail
    refine (survey_any y w1 HOK.out HFW.out).mono ?_
    rintro e w2 ⟨sa, sc, ta, tc, ra, rc, rfl, ho, hn⟩
    have H2 := Lib.hid (And.intro ho.ok hn)
    clear ho hn x0 x1 x2 x3 x4
    have HLA := Lib.hid (learn_all ⟨y.s, sa, sc, ta, tc, ra, rc⟩ w2 H2.out.1 (few_s (y := y) rfl HFW.out))
    obtain ⟨E, hE⟩ : ∃ q, q = learnE y.s := ⟨_, rfl⟩
    obtain ⟨LL, hLL⟩ : ∃ q, q = learnL y.s := ⟨_, rfl⟩
    have hcs := learn_cases HSD.out
    rw [← hE, ← hLL] at hcs
    have HLA2 : Hid (Calls Try.prog 26 #[.agg #[.slice sa y.s.spots.length sc, vi y.s.strain, .slice ta y.s.tools.length tc, vi y.s.day, .slice ra y.s.reads.length rc]] w2 fun e w' => ∃ B d, e = .returned (.tuple #[.slice B LL.length d, vi E]) ∧ w'.ownsRow w2.heap.size 56 4 (.slice B LL.length d) LL.length (LL.flatMap spL) ∧ newer w2 w') := Lib.hid (by rw [hE, hLL]; exact HLA.out)
    have HEE := Lib.hid hE
    clear hE hLL HLA
    go_wp2_with fail
    refine (HLA2.out).mono ?_
    rintro e w3 ⟨B1, d1, rfl, hl1, hn⟩
    have H3 := Lib.hid (And.intro hl1 (newer_trans H2.out.2 hn))
    clear hl1 hn H2 HLA2
    rcases hcs with ⟨rfl, rfl⟩ | ⟨rfl, rfl, hcok⟩
    · rw [List.length_nil]
      go_wp2_with fail
      refine (awake_any _).mono ?_
      rintro e wk ⟨rfl, hb⟩
      have HK := Lib.hid (newer_trans (newer_trans HN.out H3.out.2) hb)
      clear hb
      go_wp2_with fail
      go_ret
      exact ⟨rfl, HK.out⟩
    · have HEE9 : Hid (learnE y.s = 0) := Lib.hid HEE.out.symm
      obtain ⟨ns, hns⟩ : ∃ q, q = y.s.spots.length := ⟨_, rfl⟩
      have hkl : (knL y.s).length = ns := by rw [hns]; exact knK_len y.s _
      have hs1 : 1 ≤ ns := by rw [hns]; exact HSD.out.spots.1
      have hs6 : ns ≤ 6 := by rw [hns]; exact HSD.out.spots.2
      obtain ⟨k, hk⟩ : ∃ q, q = an % ns := ⟨_, rfl⟩
      have hkn : k < ns := by rw [hk]; exact Nat.mod_lt _ (by omega)
      have hki : (k : Int) < ns := by omega
      have ek : (an : Int).tmod ns = k := by rw [hk, Int.tmod_eq_emod_of_nonneg (by omega)]; exact (Int.natCast_emod _ _).symm
      have ew : IntKind.i64.wrap (an : Int) = an := IntWalk.i64_in _ (by omega)
      have hnz : ¬ (ns : Int) = 0 := by omega
      obtain ⟨p, hp⟩ : ∃ p, y.s.spots[k]? = some p := ⟨_, List.getElem?_eq_getElem (by omega)⟩
      have hok3 := HOK.out.next H3.out.2
      obtain ⟨sb, so, es, _, p0, p1, p2, p3⟩ := row4 hok3.sp hp
      have HP := Lib.hid (And.intro hp (And.intro hcok hns))
      have hx := HB.out.below H3.out.2 HB.out.lt
      have HX3 := Lib.hid hx
      have x0 := hx.at 0 (v := .slice y.sa y.s.spots.length y.sc) rfl
      have x1 := hx.at 1 (v := vi y.s.strain) rfl
      have x2 := hx.at 2 (v := .slice y.ta y.s.tools.length y.tc) rfl
      have x3 := hx.at 3 (v := vi y.s.day) rfl
      have x4 := hx.at 4 (v := .slice y.ra y.s.reads.length y.rc) rfl
      rw [es] at x0
      rw [hkl]
      rw [← hns] at x0
      have HKL := Lib.hid hkl
      clear hk hp hok3 hns hkl hx hcok es
      go_upto_region 10 with fail
      obtain ⟨pb, hpb⟩ : ∃ q, q = w3.heap.size := ⟨_, rfl⟩
      rw [← hpb]
      refine genQ (fun X => newer w3 X ∧ Whole X pb 73 #[vi p.x.lo, vi p.x.hi, vi p.y.lo, vi p.y.hi]) ⟨newer_allocH _ _, by rw [hpb]; exact Whole.made _ _ _⟩ ?_
      rintro w4 ⟨hn4, hbp⟩
      obtain ⟨lp, hlp⟩ : ∃ q, q = learnN y.s k := ⟨_, rfl⟩
      have hlk : (knL y.s)[k]? = some lp := by rw [hlp]; exact knL_at (by rw [← HP.out.2.2]; exact hkn)
      have hrow := row_of_own (enc := spL) (size := 4) (by decide) (fun _ => rfl) (own_below H3.out.1 hn4)
      obtain ⟨lb, lo, el, _, l0, l1, l2, l3⟩ := row4 hrow hlk
      rw [el]
      have HLP := Lib.hid (And.intro hlp hlk)
      have H4 := Lib.hid (And.intro hn4 hbp)
      clear hpb hn4 hbp hlp hlk hrow x0 x1 x2 x3 x4 p0 p1 p2 p3
      refine wp_words (by kernel_rfl) (region_lateA 13 12 (by kernel_rfl) (by kernel_rfl) (by decide) (by kernel_rfl) (Apart2 w4 9 10) (pickB [vIs (.slice (some ⟨lb, lo, none⟩) ns d1), vIs (vi k), vIs (.pointer (some ⟨lb, lo + k * 4, none⟩)), vIs (.pointer (some ⟨lb, lo + k * 4, none⟩)), vIs (rgV lp.x), vIs (.slice (some ⟨lb, lo, none⟩) ns d1), vIs (vi k), vIs (.pointer (some ⟨lb, lo + k * 4, none⟩)), vIs (.pointer (some ⟨lb, lo + k * 4 + 2, none⟩)), vIs (rgV lp.y), vNew w4.heap.size 54 #[vi 0, vi 0], vNew w4.heap.size 54 #[vi 0, vi 0], (fun _ _ => True)] [(fun _ _ => True), (fun _ _ => True), (fun _ _ => True), (fun _ _ => True), (fun _ _ => True), vIs (.slice (some ⟨lb, lo, none⟩) ns d1), vIs (vi k), vIs (.pointer (some ⟨lb, lo + k * 4, none⟩)), vIs (.pointer (some ⟨lb, lo + k * 4 + 2, none⟩)), vIs (rgV lp.y), vNew w4.heap.size 54 #[vi lp.x.lo, vi lp.x.hi], vNew w4.heap.size 54 #[vi 0, vi 0], (fun _ _ => True)]) (pickB_stable ⟨vIs_st, vIs_st, vIs_st, vIs_st, vIs_st, vIs_st, vIs_st, vIs_st, vIs_st, vIs_st, vNew_st, vNew_st, (fun _ _ _ h _ => h), trivial⟩ ⟨(fun _ _ _ h _ => h), (fun _ _ _ h _ => h), (fun _ _ _ h _ => h), (fun _ _ _ h _ => h), (fun _ _ _ h _ => h), vIs_st, vIs_st, vIs_st, vIs_st, vIs_st, vNew_st, vNew_st, (fun _ _ _ h _ => h), trivial⟩) (Apart2.start (fun g o h => by cases h) (fun g o h => by cases h)) ?_ ?_)
      · refine ⟨?_, ?_, ?_, ?_, ?_, ?_, ?_, ?_, ?_, ?_, ?_, ?_, ?_, trivial⟩
        · intro a W hA hO hp
          have hG := hA.bl
          have h5 := hO.slot 5 (by kernel_rfl)
          refine wp_yields (v := .slice (some ⟨lb, lo, none⟩) ns d1) ?_ ⟨_, rfl, rfl, Below.refl _ _, hA.put (Below.refl _ _) (by decide) (by decide)⟩
          simp [slotOf] at h5
          simp [execOp, go_sem, h5]
        · intro a W hA hO hp
          have hG := hA.bl
          have h7 := hO.slot 7 (by kernel_rfl)
          refine wp_yields (v := vi k) ?_ ⟨_, rfl, rfl, Below.refl _ _, hA.put (Below.refl _ _) (by decide) (by decide)⟩
          simp [slotOf] at h7
          simp [execOp, go_sem, h7]
        · intro a W hA hO hp
          have hG := hA.bl
          have h51 : slotOf a 51 = .slice (some ⟨lb, lo, none⟩) ns d1 := hp.1
          have h52 : slotOf a 52 = vi k := hp.2.1
          refine wp_yields (v := .pointer (some ⟨lb, lo + k * 4, none⟩)) ?_ ⟨_, rfl, rfl, Below.refl _ _, hA.put (Below.refl _ _) (by decide) (by decide)⟩
          simp [slotOf] at h51 h52
          simp [execOp, go_sem, h51, h52, hki]
        · intro a W hA hO hp
          have hG := hA.bl
          have h53 : slotOf a 53 = .pointer (some ⟨lb, lo + k * 4, none⟩) := hp.1
          refine wp_yields (v := .pointer (some ⟨lb, lo + k * 4, none⟩)) ?_ ⟨_, rfl, rfl, Below.refl _ _, hA.put (Below.refl _ _) (by decide) (by decide)⟩
          simp [slotOf] at h53
          simp [execOp, go_sem, h53]
        · intro a W hA hO hp
          have hG := hA.bl
          have h54 : slotOf a 54 = .pointer (some ⟨lb, lo + k * 4, none⟩) := hp.1
          have c0 := keep_cell l0 hG
          have c1 := keep_cell l1 hG
          refine wp_yields (v := rgV lp.x) ?_ ⟨_, rfl, rfl, Below.refl _ _, hA.put (Below.refl _ _) (by decide) (by decide)⟩
          simp [slotOf] at h54
          simp [execOp, go_sem, h54, c0, c1]
        · intro b a W hA hO hp
          have hG := hA.bl
          have h5 := hO.slot 5 (by kernel_rfl)
          refine wp_yields (v := .slice (some ⟨lb, lo, none⟩) ns d1) ?_ ⟨_, rfl, (by cases b <;> rfl), Below.refl _ _, hA.put (Below.refl _ _) (by decide) (by decide)⟩
          simp [slotOf] at h5
          simp [execOp, go_sem, h5]
        · intro b a W hA hO hp
          have hG := hA.bl
          have h7 := hO.slot 7 (by kernel_rfl)
          refine wp_yields (v := vi k) ?_ ⟨_, rfl, (by cases b <;> rfl), Below.refl _ _, hA.put (Below.refl _ _) (by decide) (by decide)⟩
          simp [slotOf] at h7
          simp [execOp, go_sem, h7]
        · intro b a W hA hO hp
          have hG := hA.bl
          have h56 : slotOf a 56 = .slice (some ⟨lb, lo, none⟩) ns d1 := by cases b <;> exact hp.1
          have h57 : slotOf a 57 = vi k := by cases b <;> exact hp.2.1
          refine wp_yields (v := .pointer (some ⟨lb, lo + k * 4, none⟩)) ?_ ⟨_, rfl, (by cases b <;> rfl), Below.refl _ _, hA.put (Below.refl _ _) (by decide) (by decide)⟩
          simp [slotOf] at h56 h57
          simp [execOp, go_sem, h56, h57, hki]
        · intro b a W hA hO hp
          have hG := hA.bl
          have h58 : slotOf a 58 = .pointer (some ⟨lb, lo + k * 4, none⟩) := by cases b <;> exact hp.1
          refine wp_yields (v := .pointer (some ⟨lb, lo + k * 4 + 2, none⟩)) ?_ ⟨_, rfl, (by cases b <;> rfl), Below.refl _ _, hA.put (Below.refl _ _) (by decide) (by decide)⟩
          simp [slotOf] at h58
          simp [execOp, go_sem, h58]
        · intro b a W hA hO hp
          have hG := hA.bl
          have h59 : slotOf a 59 = .pointer (some ⟨lb, lo + k * 4 + 2, none⟩) := by cases b <;> exact hp.1
          have c0 := keep_cell l2 hG
          have c1 := keep_cell l3 hG
          refine wp_yields (v := rgV lp.y) ?_ ⟨_, rfl, (by cases b <;> rfl), Below.refl _ _, hA.put (Below.refl _ _) (by decide) (by decide)⟩
          simp [slotOf] at h59
          simp [execOp, go_sem, h59, c0, c1]
        · intro a W hA hO hp
          have hG := hA.bl
          refine wp_makes (v := .pointer (some ⟨W.heap.size, 0, none⟩)) (W' := W.alloc (.cells #[vi 0, vi 0] 54)) ?_ ⟨_, rfl, ⟨_, rfl, hG.size, Whole.made _ _ _⟩, newer_allocH _ _, hA.newP (by decide) _⟩
          skip
          simp [execOp, go_sem]
        · intro a W hA hO hp
          have hG := hA.bl
          refine wp_makes (v := .pointer (some ⟨W.heap.size, 0, none⟩)) (W' := W.alloc (.cells #[vi 0, vi 0] 54)) ?_ ⟨_, rfl, ⟨_, rfl, hG.size, Whole.made _ _ _⟩, newer_allocH _ _, hA.newQ (by decide) _⟩
          skip
          simp [execOp, go_sem]
        · intro a W hA hO hp
          have hG := hA.bl
          have h9 := hp.1
          have h55 : slotOf a 55 = rgV lp.x := hp.2.1
          obtain ⟨g, h9, hg, hW⟩ := h9
          have b0 := hW.at 0 rfl
          have b1 := hW.at 1 rfl
          have f0 := hW.free 0
          have f1 := hW.free 1
          have hq := h9
          simp [slotOf] at h9 h55
          refine wp_storesE (W' := (W.setCell ⟨g, 0, none⟩ (vi lp.x.lo)).setCell ⟨g, 1, none⟩ (vi lp.x.hi)) (by simp [execOp, go_sem, h9, h55, b0, b1, f0, f1]) ⟨rfl, hA.step ((hG.setCell (p := ⟨g, 0, none⟩) hg _).setCell (p := ⟨g, 1, none⟩) hg _) (by simp), ?_⟩
          intro j oj d hj hoj hd hD
          match j, hoj, hD with
          | 0, _, _ => trivial
          | 1, _, _ => trivial
          | 2, _, _ => trivial
          | 3, _, _ => trivial
          | 4, _, _ => trivial
          | 5, _, hD =>
            exact hD
          | 6, _, hD =>
            exact hD
          | 7, _, hD =>
            exact hD
          | 8, _, hD =>
            exact hD
          | 9, _, hD =>
            exact hD
          | 10, hoj, _ =>
            obtain rfl := Option.some.inj hoj
            obtain rfl := Option.some.inj hd
            exact ⟨g, hq, hg, (hW.set 0 _).set 1 _⟩
          | 11, hoj, hD =>
            obtain rfl := Option.some.inj hoj
            obtain rfl := Option.some.inj hd
            obtain ⟨g2, h1, h2, h3⟩ := hD
            have hne := hA.ne g 0 g2 0 hq h1 hg h2
            exact ⟨g2, h1, h2, (h3.far (p := ⟨g, 0, none⟩) (Ne.symm hne) _).far (p := ⟨g, 1, none⟩) (Ne.symm hne) _⟩
          | 12, _, _ => trivial
          | (_ + 13), _, _ => omega
      · intro w5
        rintro _ - _ - _ - _ - _ - _ rfl _ rfl _ rfl _ rfl _ rfl _ ⟨g, rfl, hg, hW⟩ _ ⟨g2, rfl, hg2, hV⟩ hA
        change wpList _ _ _ _ _ _
        simp only [Act.put, List.setIfInBounds_toArray, List.set_cons_zero, List.set_cons_succ, List.drop_succ_cons, List.drop_zero]
        have hne := hA.ne g 0 g2 0 (by kernel_rfl) (by kernel_rfl) hg hg2
        have hbp5 := H4.out.2.below hA.bl H4.out.2.lt
        have hpg : pb < g := Nat.lt_of_lt_of_le H4.out.2.lt hg
        have hpg2 : pb < g2 := Nat.lt_of_lt_of_le H4.out.2.lt hg2
        have hle2 : w3.heap.size ≤ g2 := Nat.le_trans H4.out.1.size hg2
        have v0 := hV.at 0 rfl
        have v1 := hV.at 1 rfl
        have f0 := hV.free 0
        have f1 := hV.free 1
        have HW5 := Lib.hid (And.intro (newer_trans H4.out.1 hA.bl) (And.intro hbp5 (And.intro hW hV)))
        have HGG := Lib.hid (And.intro hpg (And.intro hpg2 (And.intro hne hle2)))
        clear hbp5 hpg hpg2 hle2 hg hg2 hW hV hA hne l0 l1 l2 l3 H4
        go_upto_region 11 with fail
        refine genQ (fun X => newer w3 X ∧ Whole X pb 73 #[vi p.x.lo, vi p.x.hi, vi p.y.lo, vi p.y.hi] ∧ Whole X g 54 #[vi lp.x.lo, vi lp.x.hi] ∧ Whole X g2 54 #[vi lp.y.lo, vi lp.y.hi]) ⟨(HW5.out.1.setCell (p := ⟨g2, 0, none⟩) HGG.out.2.2.2 _).setCell (p := ⟨g2, 1, none⟩) HGG.out.2.2.2 _, (HW5.out.2.1.far (p := ⟨g2, 0, none⟩) (Nat.ne_of_lt HGG.out.2.1) _).far (p := ⟨g2, 1, none⟩) (Nat.ne_of_lt HGG.out.2.1) _, (HW5.out.2.2.1.far (p := ⟨g2, 0, none⟩) HGG.out.2.2.1 _).far (p := ⟨g2, 1, none⟩) HGG.out.2.2.1 _, (HW5.out.2.2.2.set 0 _).set 1 _⟩ ?_
        clear HW5 v0 v1 f0 f1
        rintro w6 ⟨hn6, hp6, hg6, hq6⟩
        have p0 := hp6.at 0 (v := vi p.x.lo) rfl
        have p1 := hp6.at 1 (v := vi p.x.hi) rfl
        have p2 := hp6.at 2 (v := vi p.y.lo) rfl
        have p3 := hp6.at 3 (v := vi p.y.hi) rfl
        have l0 := hg6.at 0 (v := vi lp.x.lo) rfl
        have l1 := hg6.at 1 (v := vi lp.x.hi) rfl
        have l2 := hq6.at 0 (v := vi lp.y.lo) rfl
        have l3 := hq6.at 1 (v := vi lp.y.hi) rfl
        have hin := learn_in HP.out.2.1 HSD.out HP.out.1
        rw [← HLP.out.1] at hin
        obtain ⟨⟨i1, i2, i3⟩, i4, i5, i6⟩ := hin
        obtain ⟨⟨x1, x2, x3, x4⟩, y1, y2, y3, y4⟩ := HSD.out.spot p (List.mem_of_getElem? HP.out.1)
        have ew1 : IntKind.i64.wrap (lp.x.lo - 1) = lp.x.lo - 1 := IntWalk.i64_in _ (by omega)
        have ew2 : IntKind.i64.wrap (lp.x.hi + 1) = lp.x.hi + 1 := IntWalk.i64_in _ (by omega)
        have ew3 : IntKind.i64.wrap (lp.y.lo - 1) = lp.y.lo - 1 := IntWalk.i64_in _ (by omega)
        have ew4 : IntKind.i64.wrap (lp.y.hi + 1) = lp.y.hi + 1 := IntWalk.i64_in _ (by omega)
        have H6 := Lib.hid (And.intro hn6 (And.intro hp6 (And.intro hg6 hq6)))
        clear x1 x2 x3 x4 y1 y2 y3 y4 hn6 hp6 hg6 hq6
        go_upto_region 13 with fail
        refine wp_words (by kernel_rfl) (region_told 54 (by kernel_rfl) (by kernel_rfl) (fun W => Below w6.heap.size w6 W) newer (pickD [vIs (.pointer (some ⟨g, 0, none⟩)), vIs (vi lp.x.lo), vIs (rgV ⟨lp.x.lo, lp.x.lo⟩), vIs (.pointer (some ⟨pb, 2, none⟩)), vIs (rgV p.y), vIs (.agg #[vi lp.x.lo, vi lp.x.lo, vi p.y.lo, vi p.y.hi]), vIs (.pointer (some ⟨g, 1, none⟩)), vIs (vi lp.x.hi), vIs (rgV ⟨lp.x.hi, lp.x.hi⟩), vIs (.pointer (some ⟨pb, 2, none⟩)), vIs (rgV p.y), vIs (.agg #[vi lp.x.hi, vi lp.x.hi, vi p.y.lo, vi p.y.hi]), vIs (.pointer (some ⟨pb, 0, none⟩)), vIs (rgV p.x), vIs (.pointer (some ⟨g2, 0, none⟩)), vIs (vi lp.y.lo), vIs (rgV ⟨lp.y.lo, lp.y.lo⟩), vIs (.agg #[vi p.x.lo, vi p.x.hi, vi lp.y.lo, vi lp.y.lo]), vIs (.pointer (some ⟨pb, 0, none⟩)), vIs (rgV p.x), vIs (.pointer (some ⟨g2, 1, none⟩)), vIs (vi lp.y.hi), vIs (rgV ⟨lp.y.hi, lp.y.hi⟩), vIs (.agg #[vi p.x.lo, vi p.x.hi, vi lp.y.hi, vi lp.y.hi]), vIs (.pointer (some ⟨g, 0, none⟩)), vIs (vi lp.x.lo), vIs (vi (lp.x.lo - 1)), vIs (rgV ⟨lp.x.lo - 1, lp.x.lo - 1⟩), vIs (.pointer (some ⟨pb, 2, none⟩)), vIs (rgV p.y), vIs (.agg #[vi (lp.x.lo - 1), vi (lp.x.lo - 1), vi p.y.lo, vi p.y.hi]), vIs (.pointer (some ⟨g, 1, none⟩)), vIs (vi lp.x.hi), vIs (vi (lp.x.hi + 1)), vIs (rgV ⟨lp.x.hi + 1, lp.x.hi + 1⟩), vIs (.pointer (some ⟨pb, 2, none⟩)), vIs (rgV p.y), vIs (.agg #[vi (lp.x.hi + 1), vi (lp.x.hi + 1), vi p.y.lo, vi p.y.hi]), vIs (.pointer (some ⟨pb, 0, none⟩)), vIs (rgV p.x), vIs (.pointer (some ⟨g2, 0, none⟩)), vIs (vi lp.y.lo), vIs (vi (lp.y.lo - 1)), vIs (rgV ⟨lp.y.lo - 1, lp.y.lo - 1⟩), vIs (.agg #[vi p.x.lo, vi p.x.hi, vi (lp.y.lo - 1), vi (lp.y.lo - 1)]), vIs (.pointer (some ⟨pb, 0, none⟩)), vIs (rgV p.x), vIs (.pointer (some ⟨g2, 1, none⟩)), vIs (vi lp.y.hi), vIs (vi (lp.y.hi + 1)), vIs (rgV ⟨lp.y.hi + 1, lp.y.hi + 1⟩), vIs (.agg #[vi p.x.lo, vi p.x.hi, vi (lp.y.hi + 1), vi (lp.y.hi + 1)]), vIs (.agg #[vi lp.x.lo, vi lp.x.lo, vi p.y.lo, vi p.y.hi, vi lp.x.hi, vi lp.x.hi, vi p.y.lo, vi p.y.hi, vi p.x.lo, vi p.x.hi, vi lp.y.lo, vi lp.y.lo, vi p.x.lo, vi p.x.hi, vi lp.y.hi, vi lp.y.hi, vi (lp.x.lo - 1), vi (lp.x.lo - 1), vi p.y.lo, vi p.y.hi, vi (lp.x.hi + 1), vi (lp.x.hi + 1), vi p.y.lo, vi p.y.hi, vi p.x.lo, vi p.x.hi, vi (lp.y.lo - 1), vi (lp.y.lo - 1), vi p.x.lo, vi p.x.hi, vi (lp.y.hi + 1), vi (lp.y.hi + 1)]), vNew w6.heap.size 75 #[vi 0, vi 0, vi 0, vi 0, vi 0, vi 0, vi 0, vi 0, vi 0, vi 0, vi 0, vi 0, vi 0, vi 0, vi 0, vi 0, vi 0, vi 0, vi 0, vi 0, vi 0, vi 0, vi 0, vi 0, vi 0, vi 0, vi 0, vi 0, vi 0, vi 0, vi 0, vi 0]]) (fun h k => newer_trans h k) (pickD_stable _ ⟨vIs_st, vIs_st, vIs_st, vIs_st, vIs_st, vIs_st, vIs_st, vIs_st, vIs_st, vIs_st, vIs_st, vIs_st, vIs_st, vIs_st, vIs_st, vIs_st, vIs_st, vIs_st, vIs_st, vIs_st, vIs_st, vIs_st, vIs_st, vIs_st, vIs_st, vIs_st, vIs_st, vIs_st, vIs_st, vIs_st, vIs_st, vIs_st, vIs_st, vIs_st, vIs_st, vIs_st, vIs_st, vIs_st, vIs_st, vIs_st, vIs_st, vIs_st, vIs_st, vIs_st, vIs_st, vIs_st, vIs_st, vIs_st, vIs_st, vIs_st, vIs_st, vIs_st, vIs_st, vNew_st, trivial⟩) (Below.refl _ w6).drew (Below.refl _ _) ?_ ?_)
        · refine ⟨?_, ?_, ?_, ?_, ?_, ?_, ?_, ?_, ?_, ?_, ?_, ?_, ?_, ?_, ?_, ?_, ?_, ?_, ?_, ?_, ?_, ?_, ?_, ?_, ?_, ?_, ?_, ?_, ?_, ?_, ?_, ?_, ?_, ?_, ?_, ?_, ?_, ?_, ?_, ?_, ?_, ?_, ?_, ?_, ?_, ?_, ?_, ?_, ?_, ?_, ?_, ?_, ?_, ?_, trivial⟩
          · intro a W hG hR hO hp
            have h9 := hO.slot 9 (by kernel_rfl)
            refine kY (v := .pointer (some ⟨g, 0, none⟩)) hG rfl ?_
            simp [slotOf] at h9
            simp [execOp, go_sem, h9]
          · intro a W hG hR hO hp
            have h105 : slotOf a 105 = .pointer (some ⟨g, 0, none⟩) := hp.1
            have c0 := keep_cell l0 hG
            refine kY (v := vi lp.x.lo) hG rfl ?_
            simp [slotOf] at h105
            simp [execOp, go_sem, h105, c0]
          · intro a W hG hR hO hp
            have h106 : slotOf a 106 = vi lp.x.lo := hp.1
            refine wp_enters (f := 37) (args := #[vi lp.x.lo]) ?_ ((one_any (lp.x.lo) W).mono ?_)
            · simp [slotOf] at h106
              simp [go_sem, h106]
            · rintro e w' ⟨rfl, hb⟩
              exact ⟨_, rfl, _, rfl, rfl, hb, below_next hG hb⟩
          · intro a W hG hR hO hp
            have h8 := hO.slot 8 (by kernel_rfl)
            refine kY (v := .pointer (some ⟨pb, 2, none⟩)) hG rfl ?_
            simp [slotOf] at h8
            simp [execOp, go_sem, h8]
          · intro a W hG hR hO hp
            have h108 : slotOf a 108 = .pointer (some ⟨pb, 2, none⟩) := hp.1
            have c0 := keep_cell p2 hG
            have c1 := keep_cell p3 hG
            refine kY (v := rgV p.y) hG rfl ?_
            simp [slotOf] at h108
            simp [execOp, go_sem, h108, c0, c1]
          · intro a W hG hR hO hp
            have h107 : slotOf a 107 = rgV ⟨lp.x.lo, lp.x.lo⟩ := hp.1
            have h109 : slotOf a 109 = rgV p.y := hp.2.1
            refine kY (v := .agg #[vi lp.x.lo, vi lp.x.lo, vi p.y.lo, vi p.y.hi]) hG rfl ?_
            simp [slotOf] at h107 h109
            simp [execOp, go_sem, h107, h109]
          · intro a W hG hR hO hp
            have h9 := hO.slot 9 (by kernel_rfl)
            refine kY (v := .pointer (some ⟨g, 1, none⟩)) hG rfl ?_
            simp [slotOf] at h9
            simp [execOp, go_sem, h9]
          · intro a W hG hR hO hp
            have h111 : slotOf a 111 = .pointer (some ⟨g, 1, none⟩) := hp.1
            have c0 := keep_cell l1 hG
            refine kY (v := vi lp.x.hi) hG rfl ?_
            simp [slotOf] at h111
            simp [execOp, go_sem, h111, c0]
          · intro a W hG hR hO hp
            have h112 : slotOf a 112 = vi lp.x.hi := hp.1
            refine wp_enters (f := 37) (args := #[vi lp.x.hi]) ?_ ((one_any (lp.x.hi) W).mono ?_)
            · simp [slotOf] at h112
              simp [go_sem, h112]
            · rintro e w' ⟨rfl, hb⟩
              exact ⟨_, rfl, _, rfl, rfl, hb, below_next hG hb⟩
          · intro a W hG hR hO hp
            have h8 := hO.slot 8 (by kernel_rfl)
            refine kY (v := .pointer (some ⟨pb, 2, none⟩)) hG rfl ?_
            simp [slotOf] at h8
            simp [execOp, go_sem, h8]
          · intro a W hG hR hO hp
            have h114 : slotOf a 114 = .pointer (some ⟨pb, 2, none⟩) := hp.1
            have c0 := keep_cell p2 hG
            have c1 := keep_cell p3 hG
            refine kY (v := rgV p.y) hG rfl ?_
            simp [slotOf] at h114
            simp [execOp, go_sem, h114, c0, c1]
          · intro a W hG hR hO hp
            have h113 : slotOf a 113 = rgV ⟨lp.x.hi, lp.x.hi⟩ := hp.1
            have h115 : slotOf a 115 = rgV p.y := hp.2.1
            refine kY (v := .agg #[vi lp.x.hi, vi lp.x.hi, vi p.y.lo, vi p.y.hi]) hG rfl ?_
            simp [slotOf] at h113 h115
            simp [execOp, go_sem, h113, h115]
          · intro a W hG hR hO hp
            have h8 := hO.slot 8 (by kernel_rfl)
            refine kY (v := .pointer (some ⟨pb, 0, none⟩)) hG rfl ?_
            simp [slotOf] at h8
            simp [execOp, go_sem, h8]
          · intro a W hG hR hO hp
            have h117 : slotOf a 117 = .pointer (some ⟨pb, 0, none⟩) := hp.1
            have c0 := keep_cell p0 hG
            have c1 := keep_cell p1 hG
            refine kY (v := rgV p.x) hG rfl ?_
            simp [slotOf] at h117
            simp [execOp, go_sem, h117, c0, c1]
          · intro a W hG hR hO hp
            have h10 := hO.slot 10 (by kernel_rfl)
            refine kY (v := .pointer (some ⟨g2, 0, none⟩)) hG rfl ?_
            simp [slotOf] at h10
            simp [execOp, go_sem, h10]
          · intro a W hG hR hO hp
            have h119 : slotOf a 119 = .pointer (some ⟨g2, 0, none⟩) := hp.1
            have c0 := keep_cell l2 hG
            refine kY (v := vi lp.y.lo) hG rfl ?_
            simp [slotOf] at h119
            simp [execOp, go_sem, h119, c0]
          · intro a W hG hR hO hp
            have h120 : slotOf a 120 = vi lp.y.lo := hp.1
            refine wp_enters (f := 37) (args := #[vi lp.y.lo]) ?_ ((one_any (lp.y.lo) W).mono ?_)
            · simp [slotOf] at h120
              simp [go_sem, h120]
            · rintro e w' ⟨rfl, hb⟩
              exact ⟨_, rfl, _, rfl, rfl, hb, below_next hG hb⟩
          · intro a W hG hR hO hp
            have h118 : slotOf a 118 = rgV p.x := hp.1
            have h121 : slotOf a 121 = rgV ⟨lp.y.lo, lp.y.lo⟩ := hp.2.1
            refine kY (v := .agg #[vi p.x.lo, vi p.x.hi, vi lp.y.lo, vi lp.y.lo]) hG rfl ?_
            simp [slotOf] at h118 h121
            simp [execOp, go_sem, h118, h121]
          · intro a W hG hR hO hp
            have h8 := hO.slot 8 (by kernel_rfl)
            refine kY (v := .pointer (some ⟨pb, 0, none⟩)) hG rfl ?_
            simp [slotOf] at h8
            simp [execOp, go_sem, h8]
          · intro a W hG hR hO hp
            have h123 : slotOf a 123 = .pointer (some ⟨pb, 0, none⟩) := hp.1
            have c0 := keep_cell p0 hG
            have c1 := keep_cell p1 hG
            refine kY (v := rgV p.x) hG rfl ?_
            simp [slotOf] at h123
            simp [execOp, go_sem, h123, c0, c1]
          · intro a W hG hR hO hp
            have h10 := hO.slot 10 (by kernel_rfl)
            refine kY (v := .pointer (some ⟨g2, 1, none⟩)) hG rfl ?_
            simp [slotOf] at h10
            simp [execOp, go_sem, h10]
          · intro a W hG hR hO hp
            have h125 : slotOf a 125 = .pointer (some ⟨g2, 1, none⟩) := hp.1
            have c0 := keep_cell l3 hG
            refine kY (v := vi lp.y.hi) hG rfl ?_
            simp [slotOf] at h125
            simp [execOp, go_sem, h125, c0]
          · intro a W hG hR hO hp
            have h126 : slotOf a 126 = vi lp.y.hi := hp.1
            refine wp_enters (f := 37) (args := #[vi lp.y.hi]) ?_ ((one_any (lp.y.hi) W).mono ?_)
            · simp [slotOf] at h126
              simp [go_sem, h126]
            · rintro e w' ⟨rfl, hb⟩
              exact ⟨_, rfl, _, rfl, rfl, hb, below_next hG hb⟩
          · intro a W hG hR hO hp
            have h124 : slotOf a 124 = rgV p.x := hp.1
            have h127 : slotOf a 127 = rgV ⟨lp.y.hi, lp.y.hi⟩ := hp.2.1
            refine kY (v := .agg #[vi p.x.lo, vi p.x.hi, vi lp.y.hi, vi lp.y.hi]) hG rfl ?_
            simp [slotOf] at h124 h127
            simp [execOp, go_sem, h124, h127]
          · intro a W hG hR hO hp
            have h9 := hO.slot 9 (by kernel_rfl)
            refine kY (v := .pointer (some ⟨g, 0, none⟩)) hG rfl ?_
            simp [slotOf] at h9
            simp [execOp, go_sem, h9]
          · intro a W hG hR hO hp
            have h129 : slotOf a 129 = .pointer (some ⟨g, 0, none⟩) := hp.1
            have c0 := keep_cell l0 hG
            refine kY (v := vi lp.x.lo) hG rfl ?_
            simp [slotOf] at h129
            simp [execOp, go_sem, h129, c0]
          · intro a W hG hR hO hp
            have h130 : slotOf a 130 = vi lp.x.lo := hp.1
            refine kY (v := vi (lp.x.lo - 1)) hG rfl ?_
            simp [slotOf] at h130
            simp [execOp, go_sem, h130, ew1]
          · intro a W hG hR hO hp
            have h131 : slotOf a 131 = vi (lp.x.lo - 1) := hp.1
            refine wp_enters (f := 37) (args := #[vi (lp.x.lo - 1)]) ?_ ((one_any (lp.x.lo - 1) W).mono ?_)
            · simp [slotOf] at h131
              simp [go_sem, h131]
            · rintro e w' ⟨rfl, hb⟩
              exact ⟨_, rfl, _, rfl, rfl, hb, below_next hG hb⟩
          · intro a W hG hR hO hp
            have h8 := hO.slot 8 (by kernel_rfl)
            refine kY (v := .pointer (some ⟨pb, 2, none⟩)) hG rfl ?_
            simp [slotOf] at h8
            simp [execOp, go_sem, h8]
          · intro a W hG hR hO hp
            have h133 : slotOf a 133 = .pointer (some ⟨pb, 2, none⟩) := hp.1
            have c0 := keep_cell p2 hG
            have c1 := keep_cell p3 hG
            refine kY (v := rgV p.y) hG rfl ?_
            simp [slotOf] at h133
            simp [execOp, go_sem, h133, c0, c1]
          · intro a W hG hR hO hp
            have h132 : slotOf a 132 = rgV ⟨lp.x.lo - 1, lp.x.lo - 1⟩ := hp.1
            have h134 : slotOf a 134 = rgV p.y := hp.2.1
            refine kY (v := .agg #[vi (lp.x.lo - 1), vi (lp.x.lo - 1), vi p.y.lo, vi p.y.hi]) hG rfl ?_
            simp [slotOf] at h132 h134
            simp [execOp, go_sem, h132, h134]
          · intro a W hG hR hO hp
            have h9 := hO.slot 9 (by kernel_rfl)
            refine kY (v := .pointer (some ⟨g, 1, none⟩)) hG rfl ?_
            simp [slotOf] at h9
            simp [execOp, go_sem, h9]
          · intro a W hG hR hO hp
            have h136 : slotOf a 136 = .pointer (some ⟨g, 1, none⟩) := hp.1
            have c0 := keep_cell l1 hG
            refine kY (v := vi lp.x.hi) hG rfl ?_
            simp [slotOf] at h136
            simp [execOp, go_sem, h136, c0]
          · intro a W hG hR hO hp
            have h137 : slotOf a 137 = vi lp.x.hi := hp.1
            refine kY (v := vi (lp.x.hi + 1)) hG rfl ?_
            simp [slotOf] at h137
            simp [execOp, go_sem, h137, ew2]
          · intro a W hG hR hO hp
            have h138 : slotOf a 138 = vi (lp.x.hi + 1) := hp.1
            refine wp_enters (f := 37) (args := #[vi (lp.x.hi + 1)]) ?_ ((one_any (lp.x.hi + 1) W).mono ?_)
            · simp [slotOf] at h138
              simp [go_sem, h138]
            · rintro e w' ⟨rfl, hb⟩
              exact ⟨_, rfl, _, rfl, rfl, hb, below_next hG hb⟩
          · intro a W hG hR hO hp
            have h8 := hO.slot 8 (by kernel_rfl)
            refine kY (v := .pointer (some ⟨pb, 2, none⟩)) hG rfl ?_
            simp [slotOf] at h8
            simp [execOp, go_sem, h8]
          · intro a W hG hR hO hp
            have h140 : slotOf a 140 = .pointer (some ⟨pb, 2, none⟩) := hp.1
            have c0 := keep_cell p2 hG
            have c1 := keep_cell p3 hG
            refine kY (v := rgV p.y) hG rfl ?_
            simp [slotOf] at h140
            simp [execOp, go_sem, h140, c0, c1]
          · intro a W hG hR hO hp
            have h139 : slotOf a 139 = rgV ⟨lp.x.hi + 1, lp.x.hi + 1⟩ := hp.1
            have h141 : slotOf a 141 = rgV p.y := hp.2.1
            refine kY (v := .agg #[vi (lp.x.hi + 1), vi (lp.x.hi + 1), vi p.y.lo, vi p.y.hi]) hG rfl ?_
            simp [slotOf] at h139 h141
            simp [execOp, go_sem, h139, h141]
          · intro a W hG hR hO hp
            have h8 := hO.slot 8 (by kernel_rfl)
            refine kY (v := .pointer (some ⟨pb, 0, none⟩)) hG rfl ?_
            simp [slotOf] at h8
            simp [execOp, go_sem, h8]
          · intro a W hG hR hO hp
            have h143 : slotOf a 143 = .pointer (some ⟨pb, 0, none⟩) := hp.1
            have c0 := keep_cell p0 hG
            have c1 := keep_cell p1 hG
            refine kY (v := rgV p.x) hG rfl ?_
            simp [slotOf] at h143
            simp [execOp, go_sem, h143, c0, c1]
          · intro a W hG hR hO hp
            have h10 := hO.slot 10 (by kernel_rfl)
            refine kY (v := .pointer (some ⟨g2, 0, none⟩)) hG rfl ?_
            simp [slotOf] at h10
            simp [execOp, go_sem, h10]
          · intro a W hG hR hO hp
            have h145 : slotOf a 145 = .pointer (some ⟨g2, 0, none⟩) := hp.1
            have c0 := keep_cell l2 hG
            refine kY (v := vi lp.y.lo) hG rfl ?_
            simp [slotOf] at h145
            simp [execOp, go_sem, h145, c0]
          · intro a W hG hR hO hp
            have h146 : slotOf a 146 = vi lp.y.lo := hp.1
            refine kY (v := vi (lp.y.lo - 1)) hG rfl ?_
            simp [slotOf] at h146
            simp [execOp, go_sem, h146, ew3]
          · intro a W hG hR hO hp
            have h147 : slotOf a 147 = vi (lp.y.lo - 1) := hp.1
            refine wp_enters (f := 37) (args := #[vi (lp.y.lo - 1)]) ?_ ((one_any (lp.y.lo - 1) W).mono ?_)
            · simp [slotOf] at h147
              simp [go_sem, h147]
            · rintro e w' ⟨rfl, hb⟩
              exact ⟨_, rfl, _, rfl, rfl, hb, below_next hG hb⟩
          · intro a W hG hR hO hp
            have h144 : slotOf a 144 = rgV p.x := hp.1
            have h148 : slotOf a 148 = rgV ⟨lp.y.lo - 1, lp.y.lo - 1⟩ := hp.2.1
            refine kY (v := .agg #[vi p.x.lo, vi p.x.hi, vi (lp.y.lo - 1), vi (lp.y.lo - 1)]) hG rfl ?_
            simp [slotOf] at h144 h148
            simp [execOp, go_sem, h144, h148]
          · intro a W hG hR hO hp
            have h8 := hO.slot 8 (by kernel_rfl)
            refine kY (v := .pointer (some ⟨pb, 0, none⟩)) hG rfl ?_
            simp [slotOf] at h8
            simp [execOp, go_sem, h8]
          · intro a W hG hR hO hp
            have h150 : slotOf a 150 = .pointer (some ⟨pb, 0, none⟩) := hp.1
            have c0 := keep_cell p0 hG
            have c1 := keep_cell p1 hG
            refine kY (v := rgV p.x) hG rfl ?_
            simp [slotOf] at h150
            simp [execOp, go_sem, h150, c0, c1]
          · intro a W hG hR hO hp
            have h10 := hO.slot 10 (by kernel_rfl)
            refine kY (v := .pointer (some ⟨g2, 1, none⟩)) hG rfl ?_
            simp [slotOf] at h10
            simp [execOp, go_sem, h10]
          · intro a W hG hR hO hp
            have h152 : slotOf a 152 = .pointer (some ⟨g2, 1, none⟩) := hp.1
            have c0 := keep_cell l3 hG
            refine kY (v := vi lp.y.hi) hG rfl ?_
            simp [slotOf] at h152
            simp [execOp, go_sem, h152, c0]
          · intro a W hG hR hO hp
            have h153 : slotOf a 153 = vi lp.y.hi := hp.1
            refine kY (v := vi (lp.y.hi + 1)) hG rfl ?_
            simp [slotOf] at h153
            simp [execOp, go_sem, h153, ew4]
          · intro a W hG hR hO hp
            have h154 : slotOf a 154 = vi (lp.y.hi + 1) := hp.1
            refine wp_enters (f := 37) (args := #[vi (lp.y.hi + 1)]) ?_ ((one_any (lp.y.hi + 1) W).mono ?_)
            · simp [slotOf] at h154
              simp [go_sem, h154]
            · rintro e w' ⟨rfl, hb⟩
              exact ⟨_, rfl, _, rfl, rfl, hb, below_next hG hb⟩
          · intro a W hG hR hO hp
            have h151 : slotOf a 151 = rgV p.x := hp.1
            have h155 : slotOf a 155 = rgV ⟨lp.y.hi + 1, lp.y.hi + 1⟩ := hp.2.1
            refine kY (v := .agg #[vi p.x.lo, vi p.x.hi, vi (lp.y.hi + 1), vi (lp.y.hi + 1)]) hG rfl ?_
            simp [slotOf] at h151 h155
            simp [execOp, go_sem, h151, h155]
          · intro a W hG hR hO hp
            have h110 : slotOf a 110 = .agg #[vi lp.x.lo, vi lp.x.lo, vi p.y.lo, vi p.y.hi] := hp.1
            have h116 : slotOf a 116 = .agg #[vi lp.x.hi, vi lp.x.hi, vi p.y.lo, vi p.y.hi] := hp.2.1
            have h122 : slotOf a 122 = .agg #[vi p.x.lo, vi p.x.hi, vi lp.y.lo, vi lp.y.lo] := hp.2.2.1
            have h128 : slotOf a 128 = .agg #[vi p.x.lo, vi p.x.hi, vi lp.y.hi, vi lp.y.hi] := hp.2.2.2.1
            have h135 : slotOf a 135 = .agg #[vi (lp.x.lo - 1), vi (lp.x.lo - 1), vi p.y.lo, vi p.y.hi] := hp.2.2.2.2.1
            have h142 : slotOf a 142 = .agg #[vi (lp.x.hi + 1), vi (lp.x.hi + 1), vi p.y.lo, vi p.y.hi] := hp.2.2.2.2.2.1
            have h149 : slotOf a 149 = .agg #[vi p.x.lo, vi p.x.hi, vi (lp.y.lo - 1), vi (lp.y.lo - 1)] := hp.2.2.2.2.2.2.1
            have h156 : slotOf a 156 = .agg #[vi p.x.lo, vi p.x.hi, vi (lp.y.hi + 1), vi (lp.y.hi + 1)] := hp.2.2.2.2.2.2.2.1
            refine kY (v := .agg #[vi lp.x.lo, vi lp.x.lo, vi p.y.lo, vi p.y.hi, vi lp.x.hi, vi lp.x.hi, vi p.y.lo, vi p.y.hi, vi p.x.lo, vi p.x.hi, vi lp.y.lo, vi lp.y.lo, vi p.x.lo, vi p.x.hi, vi lp.y.hi, vi lp.y.hi, vi (lp.x.lo - 1), vi (lp.x.lo - 1), vi p.y.lo, vi p.y.hi, vi (lp.x.hi + 1), vi (lp.x.hi + 1), vi p.y.lo, vi p.y.hi, vi p.x.lo, vi p.x.hi, vi (lp.y.lo - 1), vi (lp.y.lo - 1), vi p.x.lo, vi p.x.hi, vi (lp.y.hi + 1), vi (lp.y.hi + 1)]) hG rfl ?_
            simp [slotOf] at h110 h116 h122 h128 h135 h142 h149 h156
            simp [execOp, go_sem, h110, h116, h122, h128, h135, h142, h149, h156]
          · intro a W hG hR hO hp
            refine wp_makes (v := .pointer (some ⟨W.heap.size, 0, none⟩)) (W' := W.alloc (.cells #[vi 0, vi 0, vi 0, vi 0, vi 0, vi 0, vi 0, vi 0, vi 0, vi 0, vi 0, vi 0, vi 0, vi 0, vi 0, vi 0, vi 0, vi 0, vi 0, vi 0, vi 0, vi 0, vi 0, vi 0, vi 0, vi 0, vi 0, vi 0, vi 0, vi 0, vi 0, vi 0] 75)) ?_ ⟨_, rfl, ⟨_, rfl, hG.size, Whole.made _ _ _⟩, newer_allocH _ _, below_next hG (newer_allocH _ _)⟩
            skip
            simp [execOp, go_sem]
        · intro w7 hG hR
          rintro _ rfl _ rfl _ rfl _ rfl _ rfl _ rfl _ rfl _ rfl _ rfl _ rfl _ rfl _ rfl _ rfl _ rfl _ rfl _ rfl _ rfl _ rfl _ rfl _ rfl _ rfl _ rfl _ rfl _ rfl _ rfl _ rfl _ rfl _ rfl _ rfl _ rfl _ rfl _ rfl _ rfl _ rfl _ rfl _ rfl _ rfl _ rfl _ rfl _ rfl _ rfl _ rfl _ rfl _ rfl _ rfl _ rfl _ rfl _ rfl _ rfl _ rfl _ rfl _ rfl _ rfl _ ⟨ab, rfl, hab, hwa⟩
          change wpList _ _ _ _ _ _
          simp only [Act.put, List.setIfInBounds_toArray, List.set_cons_zero, List.set_cons_succ, List.drop_succ_cons, List.drop_zero]
          clear i1 i2 i3 i4 i5 i6
          refine wpList_store_row rfl 75 (.tmp 11) (.tmp 157) rfl ab #[vi lp.x.lo, vi lp.x.lo, vi p.y.lo, vi p.y.hi, vi lp.x.hi, vi lp.x.hi, vi p.y.lo, vi p.y.hi, vi p.x.lo, vi p.x.hi, vi lp.y.lo, vi lp.y.lo, vi p.x.lo, vi p.x.hi, vi lp.y.hi, vi lp.y.hi, vi (lp.x.lo - 1), vi (lp.x.lo - 1), vi p.y.lo, vi p.y.hi, vi (lp.x.hi + 1), vi (lp.x.hi + 1), vi p.y.lo, vi p.y.hi, vi p.x.lo, vi p.x.hi, vi (lp.y.lo - 1), vi (lp.y.lo - 1), vi p.x.lo, vi p.x.hi, vi (lp.y.hi + 1), vi (lp.y.hi + 1)] rfl rfl 75 _ hwa (by kernel_rfl) rfl (by simp [Value.oneCell']) ?_
          have HG7 := Lib.hid (newer_trans H6.out.1 hG)
          have HP7 := Lib.hid (H6.out.2.1.below hG H6.out.2.1.lt)
          have HQ7 := Lib.hid (H6.out.2.2.1.below hG H6.out.2.2.1.lt)
          have HR7 := Lib.hid (H6.out.2.2.2.below hG H6.out.2.2.2.lt)
          have HAB := Lib.hid (And.intro hab (And.intro (Nat.le_trans H6.out.1.size hab) hwa))
          clear hG hR hwa hab p0 p1 p2 p3 l0 l1 l2 l3 ew1 ew2 ew3 ew4
          go_upto_region 14 with fail
          refine genQ (fun X => newer w3 X ∧ Whole X pb 73 #[vi p.x.lo, vi p.x.hi, vi p.y.lo, vi p.y.hi] ∧ Whole X g 54 #[vi lp.x.lo, vi lp.x.hi] ∧ Whole X g2 54 #[vi lp.y.lo, vi lp.y.hi] ∧ Whole X ab 75 ((endsT p lp).flatMap spL).toArray) ⟨below_setRow HG7.out HAB.out.2.1 _, HP7.out.offRow (Nat.ne_of_lt (Nat.lt_of_lt_of_le H6.out.2.1.lt HAB.out.1)) _, HQ7.out.offRow (Nat.ne_of_lt (Nat.lt_of_lt_of_le H6.out.2.2.1.lt HAB.out.1)) _, HR7.out.offRow (Nat.ne_of_lt (Nat.lt_of_lt_of_le H6.out.2.2.2.lt HAB.out.1)) _, HAB.out.2.2.setRow _⟩ ?_
          clear H6 HG7 HP7 HQ7 HR7 HAB
          rintro w8 ⟨hn8, hp8, hg8, hq8, hab8⟩
          have p0 := hp8.at 0 (v := vi p.x.lo) rfl
          have p1 := hp8.at 1 (v := vi p.x.hi) rfl
          have p2 := hp8.at 2 (v := vi p.y.lo) rfl
          have p3 := hp8.at 3 (v := vi p.y.hi) rfl
          have l0 := hg8.at 0 (v := vi lp.x.lo) rfl
          have l1 := hg8.at 1 (v := vi lp.x.hi) rfl
          have l2 := hq8.at 0 (v := vi lp.y.lo) rfl
          have l3 := hq8.at 1 (v := vi lp.y.hi) rfl
          obtain ⟨b4, hb4⟩ : ∃ b, b = (lp.x.lo == p.x.lo) := ⟨_, rfl⟩
          obtain ⟨b5, hb5⟩ : ∃ b, b = (lp.x.hi == p.x.hi) := ⟨_, rfl⟩
          obtain ⟨b6, hb6⟩ : ∃ b, b = (lp.y.lo == p.y.lo) := ⟨_, rfl⟩
          obtain ⟨b7, hb7⟩ : ∃ b, b = (lp.y.hi == p.y.hi) := ⟨_, rfl⟩
          have HBB : Hid (outsT p lp = [false, false, false, false, b4, b5, b6, b7]) := Lib.hid (by unfold outsT; rw [hb4, hb5, hb6, hb7]; simp [BEq.beq])
          have h4 := hb4.symm
          have h5 := hb5.symm
          have h6 := hb6.symm
          have h7 := hb7.symm
          have H8 := Lib.hid (And.intro hn8 hab8)
          clear hp8 hg8 hq8 hn8 hab8 hb4 hb5 hb6 hb7
          go_upto_region 15 with fail
          refine genQ (fun X => newer w3 X ∧ Whole X ab 75 ((endsT p lp).flatMap spL).toArray ∧ Whole X w8.heap.size 76 ((outsT p lp).map Value.bool).toArray) ⟨newer_trans H8.out.1 (newer_allocH _ _), H8.out.2.below (newer_allocH _ _) H8.out.2.lt, by rw [HBB.out]; exact Whole.made _ _ _⟩ ?_
          obtain ⟨cb, hcb⟩ : ∃ c, c = w8.heap.size := ⟨_, rfl⟩
          rw [← hcb]
          rintro w9 ⟨hn9, ha9, hc9⟩
          have H9 := Lib.hid (And.intro hn9 (And.intro ha9 hc9))
          have HL0 : Hid (learnE y.s = 0) := HEE9
          clear p0 p1 p2 p3 l0 l1 l2 l3 h4 h5 h6 h7 HBB H8 hcb hn9 ha9 hc9
          go_wp2_with fail
          go_loopw [13, 14, 15, 16] (fun s13 _ _ _ wr => ∃ n : Nat, n ≤ 8 ∧ s13 = vi n ∧ newer w9 wr) (fun s13 _ _ _ _ => 8 - (intOf s13).toNat)
          case atStart => exact ⟨0, by omega, rfl, newer_refl _⟩
          case round =>
            obtain ⟨n, hn, rfl, hnx⟩ := hrel
            have HNX := Lib.hid hnx
            by_cases hlt : n < 8
            case neg =>
              obtain rfl : n = 8 := by omega
              clear hnx hlt hn
              go_wp2_with fail
              refine (awake_any _).mono ?_
              rintro e wk ⟨rfl, hb⟩
              have HK := Lib.hid (newer_trans (newer_trans HN.out (newer_trans H3.out.2 (newer_trans H9.out.1 HNX.out))) hb)
              clear hb
              go_wp2_with fail
              go_ret
              exact ⟨rfl, HK.out⟩
            case pos =>
              have hni : (n : Int) < 8 := by omega
              obtain ⟨b, hb⟩ : ∃ b, (outsT p lp)[n]? = some b := ⟨_, List.getElem?_eq_getElem (by exact hlt)⟩
              obtain ⟨e, he⟩ : ∃ e, (endsT p lp)[n]? = some e := ⟨_, List.getElem?_eq_getElem (by exact hlt)⟩
              have c0 := (H9.out.2.2.below hnx H9.out.2.2.lt).at n (v := .bool b) (by simp [hb])
              have HNB := Lib.hid (And.intro hb he)
              cases b with
              | true =>
                clear hb he hnx
                go_wp2_with fail
                refine ⟨⟨n + 1, by omega, rfl, HNX.out⟩, ?_⟩
                simp [intOf]
                omega
              | false =>
                have hrow := row_of_whole (enc := spL) (s := 4) (fun _ => rfl) (H9.out.2.1.below hnx H9.out.2.1.lt) rfl
                obtain ⟨b', o', eb, _, e0, e1, e2, e3⟩ := row4 hrow he
                injection eb with eb
                injection eb with eb1 eb2
                subst eb1
                subst eb2
                simp only [Nat.zero_add] at e0 e1 e2 e3
                have HL9 : Hid (learnE (spotS y.s k e) = if n < 4 then 0 else 9) := Lib.hid (learn_ends HSD.out HL0.out HP.out.1 (by rw [← HLP.out.1]; exact he) (by rw [← HLP.out.1]; exact hb))
                have HNR := Lib.hid (newer_trans H3.out.2 (newer_trans H9.out.1 hnx))
                have HE0 := Lib.hid (And.intro e0 (And.intro e1 (And.intro e2 e3)))
                have x0 := (HB.out.below HNR.out HB.out.lt).at 0 (v := .slice y.sa y.s.spots.length y.sc) rfl
                have x1 := (HB.out.below HNR.out HB.out.lt).at 1 (v := vi y.s.strain) rfl
                have x2 := (HB.out.below HNR.out HB.out.lt).at 2 (v := .slice y.ta y.s.tools.length y.tc) rfl
                have x3 := (HB.out.below HNR.out HB.out.lt).at 3 (v := vi y.s.day) rfl
                have x4 := (HB.out.below HNR.out HB.out.lt).at 4 (v := .slice y.ra y.s.reads.length y.rc) rfl
                clear hb he hnx hrow e0 e1 e2 e3
                go_wp2_with fail
                refine (survey_any y wr (HOK.out.next HNR.out) HFW.out).mono ?_
                rintro e' w10 ⟨sa4, sc4, ta4, tc4, ra4, rc4, rfl, ho, hn⟩
                have H10 := Lib.hid (And.intro ho hn)
                clear ho hn x0 x1 x2 x3 x4 c0
                go_upto_region 20 with fail
                obtain ⟨zb, hzb⟩ : ∃ q, q = w10.heap.size := ⟨_, rfl⟩
                rw [← hzb]
                refine genQ (fun X => newer w10 X ∧ Whole X zb 40 #[.slice sa4 y.s.spots.length sc4, vi y.s.strain, .slice ta4 y.s.tools.length tc4, vi y.s.day, .slice ra4 y.s.reads.length rc4]) ⟨newer_allocH _ _, by rw [hzb]; exact Whole.made _ _ _⟩ ?_
                rintro w11 ⟨hn11, hz11⟩
                have hso := H10.out.1.next hn11
                have hsl : 0 < y.s.spots.length := by have := HSD.out.spots.1; omega
                obtain ⟨g5, rfl, hg5⟩ := own_some hso.sp hsl
                obtain ⟨cs5, hcs5⟩ := own_cells hso.sp
                have z0 := hz11.at 0 (v := .slice (some ⟨g5, 0, none⟩) y.s.spots.length sc4) rfl
                obtain ⟨b', o', eb, _, q0, q1, q2, q3⟩ := row4 (row_of_own (enc := spL) (size := 4) (by decide) (fun _ => rfl) hso.sp) HP.out.1
                injection eb with eb
                injection eb with eb1 eb2
                subst eb1
                subst eb2
                simp only [Nat.zero_add] at q0 q1 q2 q3
                have hn9 := newer_trans H10.out.2 hn11
                have e0 := keep_cell HE0.out.1 hn9
                have e1 := keep_cell HE0.out.2.1 hn9
                have e2 := keep_cell HE0.out.2.2.1 hn9
                have e3 := keep_cell HE0.out.2.2.2 hn9
                have hksl : (k : Int) < y.s.spots.length := by rw [← HP.out.2.2]; exact hki
                have H11 := Lib.hid (And.intro hn9 (And.intro hz11 (And.intro hso (And.intro hcs5 hg5))))
                have HZW := Lib.hid (show wr.heap.size ≤ zb by rw [hzb]; exact H10.out.2.size)
                clear hn11 hz11 hso hcs5 hg5 hzb hn9 hsl
                refine wp_words (by kernel_rfl) (region_told 15 (by kernel_rfl) (by kernel_rfl) (fun W => Below w11.heap.size w11 W) newer (pickD [vIs (.pointer (some ⟨zb, 0, none⟩)), vIs (.slice (some ⟨g5, 0, none⟩) y.s.spots.length sc4), vIs (vi k), vIs (vi n), vIs (.pointer (some ⟨ab, n * 4, none⟩)), vIs (.pointer (some ⟨ab, n * 4, none⟩)), vIs (rgV e.x), vIs (rgV e.x), vIs (vi n), vIs (.pointer (some ⟨ab, n * 4, none⟩)), vIs (.pointer (some ⟨ab, n * 4 + 2, none⟩)), vIs (rgV e.y), vIs (rgV e.y), vIs (spV e), vIs (.pointer (some ⟨g5, k * 4, none⟩))]) (fun h k => newer_trans h k) (pickD_stable _ ⟨vIs_st, vIs_st, vIs_st, vIs_st, vIs_st, vIs_st, vIs_st, vIs_st, vIs_st, vIs_st, vIs_st, vIs_st, vIs_st, vIs_st, vIs_st, trivial⟩) (Below.refl _ w11).drew (Below.refl _ _) ?_ ?_)
                · refine ⟨?_, ?_, ?_, ?_, ?_, ?_, ?_, ?_, ?_, ?_, ?_, ?_, ?_, ?_, ?_, trivial⟩
                  · intro a W hG hR hO hp
                    have h14 := hO.slot 14 (by kernel_rfl)
                    refine kY (v := .pointer (some ⟨zb, 0, none⟩)) hG rfl ?_
                    simp [slotOf] at h14
                    simp [execOp, go_sem, h14]
                  · intro a W hG hR hO hp
                    have h192 : slotOf a 192 = .pointer (some ⟨zb, 0, none⟩) := hp.1
                    have c0 := keep_cell z0 hG
                    refine kY (v := .slice (some ⟨g5, 0, none⟩) y.s.spots.length sc4) hG rfl ?_
                    simp [slotOf] at h192
                    simp [execOp, go_sem, h192, c0]
                  · exact fun a W hG _ hO _ => kM 7 rfl (hO.slot 7 (by kernel_rfl)) rfl hG
                  · exact fun a W hG _ hO _ => kM 13 rfl (hO.slot 13 (by kernel_rfl)) rfl hG
                  · intro a W hG hR hO hp
                    have h11 := hO.slot 11 (by kernel_rfl)
                    have h195 : slotOf a 195 = vi n := hp.1
                    refine kY (v := .pointer (some ⟨ab, n * 4, none⟩)) hG rfl ?_
                    simp [slotOf] at h11 h195
                    simp [execOp, go_sem, h11, h195, hni]
                  · intro a W hG hR hO hp
                    have h196 : slotOf a 196 = .pointer (some ⟨ab, n * 4, none⟩) := hp.1
                    refine kY (v := .pointer (some ⟨ab, n * 4, none⟩)) hG rfl ?_
                    simp [slotOf] at h196
                    simp [execOp, go_sem, h196]
                  · intro a W hG hR hO hp
                    have h197 : slotOf a 197 = .pointer (some ⟨ab, n * 4, none⟩) := hp.1
                    have c0 := keep_cell e0 hG
                    have c1 := keep_cell e1 hG
                    refine kY (v := rgV e.x) hG rfl ?_
                    simp [slotOf] at h197
                    simp [execOp, go_sem, h197, c0, c1]
                  · intro a W hG hR hO hp
                    have h198 : slotOf a 198 = rgV e.x := hp.1
                    refine wp_enters (f := 38) (args := #[rgV e.x]) ?_ ((to_any e.x W).mono ?_)
                    · simp [slotOf] at h198
                      simp [go_sem, h198]
                    · rintro e w' ⟨rfl, hb⟩
                      exact ⟨_, rfl, _, rfl, rfl, hb, below_next hG hb⟩
                  · exact fun a W hG _ hO _ => kM 13 rfl (hO.slot 13 (by kernel_rfl)) rfl hG
                  · intro a W hG hR hO hp
                    have h11 := hO.slot 11 (by kernel_rfl)
                    have h200 : slotOf a 200 = vi n := hp.1
                    refine kY (v := .pointer (some ⟨ab, n * 4, none⟩)) hG rfl ?_
                    simp [slotOf] at h11 h200
                    simp [execOp, go_sem, h11, h200, hni]
                  · intro a W hG hR hO hp
                    have h201 : slotOf a 201 = .pointer (some ⟨ab, n * 4, none⟩) := hp.1
                    refine kY (v := .pointer (some ⟨ab, n * 4 + 2, none⟩)) hG rfl ?_
                    simp [slotOf] at h201
                    simp [execOp, go_sem, h201]
                  · intro a W hG hR hO hp
                    have h202 : slotOf a 202 = .pointer (some ⟨ab, n * 4 + 2, none⟩) := hp.1
                    have c0 := keep_cell e2 hG
                    have c1 := keep_cell e3 hG
                    refine kY (v := rgV e.y) hG rfl ?_
                    simp [slotOf] at h202
                    simp [execOp, go_sem, h202, c0, c1]
                  · intro a W hG hR hO hp
                    have h203 : slotOf a 203 = rgV e.y := hp.1
                    refine wp_enters (f := 38) (args := #[rgV e.y]) ?_ ((to_any e.y W).mono ?_)
                    · simp [slotOf] at h203
                      simp [go_sem, h203]
                    · rintro e w' ⟨rfl, hb⟩
                      exact ⟨_, rfl, _, rfl, rfl, hb, below_next hG hb⟩
                  · intro a W hG hR hO hp
                    have h199 : slotOf a 199 = rgV e.x := hp.1
                    have h204 : slotOf a 204 = rgV e.y := hp.2.1
                    refine kY (v := spV e) hG rfl ?_
                    simp [slotOf] at h199 h204
                    simp [execOp, go_sem, h199, h204]
                  · intro a W hG hR hO hp
                    have h193 : slotOf a 193 = .slice (some ⟨g5, 0, none⟩) y.s.spots.length sc4 := hp.1
                    have h194 : slotOf a 194 = vi k := hp.2.1
                    refine kY (v := .pointer (some ⟨g5, k * 4, none⟩)) hG rfl ?_
                    simp [slotOf] at h193 h194
                    simp [execOp, go_sem, h193, h194, hksl]
                · intro w12 hG hR
                  rintro _ rfl _ rfl _ rfl _ rfl _ rfl _ rfl _ rfl _ rfl _ rfl _ rfl _ rfl _ rfl _ rfl _ rfl _ rfl
                  change wpList _ _ _ _ _ _
                  simp only [Act.put, List.setIfInBounds_toArray, List.set_cons_zero, List.set_cons_succ, List.drop_succ_cons, List.drop_zero]
                  have f0 := (H11.out.2.2.2.1.below hG H11.out.2.2.2.1.lt).free (k * 4)
                  have f1 := (H11.out.2.2.2.1.below hG H11.out.2.2.2.1.lt).free (k * 4 + 1)
                  have f2 := (H11.out.2.2.2.1.below hG H11.out.2.2.2.1.lt).free (k * 4 + 2)
                  have f3 := (H11.out.2.2.2.1.below hG H11.out.2.2.2.1.lt).free (k * 4 + 3)
                  have q0 := keep_cell q0 hG
                  have q1 := keep_cell q1 hG
                  have q2 := keep_cell q2 hG
                  have q3 := keep_cell q3 hG
                  have HG := Lib.hid hG
                  have HSO12 := Lib.hid (H11.out.2.2.1.next hG)
                  have HZ12 := Lib.hid (H11.out.2.1.below hG H11.out.2.1.lt)
                  have HNE5 := Lib.hid (show zb ≠ g5 from fun e2 => own_ne HSO12.out.sp HZ12.out (by decide) (by rw [e2]; rfl))
                  clear hG hR e0 e1 e2 e3 z0
                  go_upto_region 21 with fail
                  obtain ⟨Z, hZ⟩ : ∃ Z : Sm, Z = ⟨spotS y.s k e, some ⟨g5, 0, none⟩, sc4, ta4, tc4, ra4, rc4⟩ := ⟨_, rfl⟩
                  have hfar : ∀ {ty : TypeId} {q s n : Nat} {v : Value} {ys : List Value}, w12.ownsRow q ty s v n ys → ty ≠ 56 → (((((w12.setCell ⟨g5, k * 4, none⟩ (vi e.x.lo)).setCell ⟨g5, k * 4 + 1, none⟩ (vi e.x.hi)).setCell ⟨g5, k * 4 + 2, none⟩ (vi e.y.lo)).setCell ⟨g5, k * 4 + 3, none⟩ (vi e.y.hi))).ownsRow q ty s v n ys := fun hv hne => own_set (own_set (own_set (own_set hv (fun e2 => own_own_ne hv HSO12.out.sp hne g5 e2 rfl) _) (fun e2 => own_own_ne hv HSO12.out.sp hne g5 e2 rfl) _) (fun e2 => own_own_ne hv HSO12.out.sp hne g5 e2 rfl) _) (fun e2 => own_own_ne hv HSO12.out.sp hne g5 e2 rfl) _
                  refine genQ (fun X => newer wr X ∧ Whole X zb 40 #[.slice (some ⟨g5, 0, none⟩) y.s.spots.length sc4, vi y.s.strain, .slice ta4 y.s.tools.length tc4, vi y.s.day, .slice ra4 y.s.reads.length rc4] ∧ SmOk Z X) ⟨?_, ?_, ?_⟩ ?_
                  · exact ((((newer_trans H11.out.1 HG.out).setCell (p := ⟨g5, k * 4, none⟩) H11.out.2.2.2.2 _).setCell (p := ⟨g5, k * 4 + 1, none⟩) H11.out.2.2.2.2 _).setCell (p := ⟨g5, k * 4 + 2, none⟩) H11.out.2.2.2.2 _).setCell (p := ⟨g5, k * 4 + 3, none⟩) H11.out.2.2.2.2 _
                  · exact (((HZ12.out.far (p := ⟨g5, k * 4, none⟩) HNE5.out _).far (p := ⟨g5, k * 4 + 1, none⟩) HNE5.out _).far (p := ⟨g5, k * 4 + 2, none⟩) HNE5.out _).far (p := ⟨g5, k * 4 + 3, none⟩) HNE5.out _
                  · rw [hZ]
                    refine ⟨?_, row_of_own (enc := tlL) (size := 7) (by decide) (fun _ => rfl) (hfar HSO12.out.tl (by decide)), row_of_own (enc := intL) (size := 1) (by decide) (fun _ => rfl) (hfar HSO12.out.rd (by decide))⟩
                    have h := own_put_spot (e := e) HSO12.out.sp HP.out.1
                    rw [← spotS_len y.s k e] at h
                    exact row_of_own (enc := spL) (size := 4) (by decide) (fun _ => rfl) h
                  rintro w13 ⟨hn13, hz13, ho13⟩
                  have hsz : smV Z = .agg #[.slice (some ⟨g5, 0, none⟩) y.s.spots.length sc4, vi y.s.strain, .slice ta4 y.s.tools.length tc4, vi y.s.day, .slice ra4 y.s.reads.length rc4] := by
                    rw [hZ]
                    show Value.agg #[.slice _ (spotS y.s k e).spots.length _, _, _, _, _] = _
                    rw [spotS_len]
                    rfl
                  have hzf : SmFew Z := by
                    rw [hZ]
                    exact ⟨by show (spotS y.s k e).spots.length ≤ _; rw [spotS_len]; exact HFW.out.sp, HFW.out.tl, HFW.out.rd⟩
                  obtain ⟨E9, hE9⟩ : ∃ q : Int, q = if n < 4 then 0 else 9 := ⟨_, rfl⟩
                  have hL := learn_all Z w13 ho13 hzf
                  rw [show Z.s = spotS y.s k e by rw [hZ], HL9.out, ← hE9, hsz] at hL
                  have HL := Lib.hid hL
                  have HE9 := Lib.hid hE9
                  have HN13 := Lib.hid (newer_trans HNX.out hn13)
                  clear hfar hL hE9 hsz hzf hZ ho13 hn13 q0 q1 q2 q3 f0 f1 f2 f3
                  have z0 := hz13.at 0 (v := .slice (some ⟨g5, 0, none⟩) y.s.spots.length sc4) rfl
                  have z1 := hz13.at 1 (v := vi y.s.strain) rfl
                  have z2 := hz13.at 2 (v := .slice ta4 y.s.tools.length tc4) rfl
                  have z3 := hz13.at 3 (v := vi y.s.day) rfl
                  have z4 := hz13.at 4 (v := .slice ra4 y.s.reads.length rc4) rfl
                  clear hz13
                  by_cases hn4 : n < 4
                  case pos =>
                    have hn4i : (n : Int) < 4 := by omega
                    obtain rfl : E9 = 0 := by rw [HE9.out, if_pos hn4]
                    go_wp2_with fail
                    refine (HL.out).mono ?_
                    rintro e' w14 ⟨B5, d5, rfl, _, hn⟩
                    have HN14 := Lib.hid (newer_trans HN13.out hn)
                    clear hn z0 z1 z2 z3 z4
                    go_wp2_with fail
                    refine ⟨⟨n + 1, by omega, rfl, HN14.out⟩, ?_⟩
                    simp [intOf]
                    omega
                  case neg =>
                    have hn4i : ¬ (n : Int) < 4 := by omega
                    obtain rfl : E9 = 9 := by rw [HE9.out, if_neg hn4]
                    go_wp2_with fail
                    refine (HL.out).mono ?_
                    rintro e' w14 ⟨B5, d5, rfl, _, hn⟩
                    have HN14 := Lib.hid (newer_trans HN13.out hn)
                    clear hn z0 z1 z2 z3 z4
                    go_wp2_with fail
                    refine ⟨⟨n + 1, by omega, rfl, HN14.out⟩, ?_⟩
                    simp [intOf]
                    omega

end Go.Proofs.Ytpmafnifgegfbaa
