/- A field of a survey, by words. -/
import Derived.Test.YtpmafnifgegfbaaAO
import Derived.Test.YtpmafnifgegfbaaGW
namespace Go.Proofs.Ytpmafnifgegfbaa
open Go.RowKit Go.Shelf Go.Deep

theorem info_moveR : (Try.prog.info? 47).map (fun i => (i.zero, i.size, i.bytes)) = some (some (.agg #[vi 0, vi 0]), 2, 16) := by kernel_rfl
theorem truthK_stop {s : Sd} {ws : List Hlf} {i n : Nat} {f : List Mv} {p q : Sp} (hi : i < n) (hT : truthK s ws i = some f) (hp : s.spots[i]? = some p) (hq : q = rangesN s p f i) (h : q.x.hi < q.x.lo ∨ q.y.hi < q.y.lo) : truthK s ws n = none := by
  have h1 : truthK s ws (i + 1) = none := by
    show (truthK s ws i).bind (stepF s ws i) = none
    rw [hT]
    show stepF s ws i f = none
    unfold stepF
    rw [hp]
    simp only
    rw [← hq, if_pos h]
  have h2 := truthK_none s ws (n - (i + 1)) (i + 1) h1
  rw [show i + 1 + (n - (i + 1)) = n by omega] at h2
  exact h2
theorem truthK_go {s : Sd} {ws : List Hlf} {i : Nat} {f : List Mv} {p q : Sp} (hT : truthK s ws i = some f) (hp : s.spots[i]? = some p) (hq : q = rangesN s p f i) (h1 : ¬ q.x.hi < q.x.lo) (h2 : ¬ q.y.hi < q.y.lo) : truthK s ws (i + 1) = some (f ++ [(pickN q.x.lo q.x.hi ws (2 * i), pickN q.y.lo q.y.hi ws (2 * i + 1))]) := by
  show (truthK s ws i).bind (stepF s ws i) = _
  rw [hT]
  show stepF s ws i f = _
  unfold stepF
  rw [hp]
  simp only
  rw [← hq, if_neg (by omega)]
theorem ranges_bd {s : Sd} (h : SdOk s) {i : Nat} {f : List Mv} {p q : Sp} (hp : s.spots[i]? = some p) (hf : f.length = i ∧ (∀ (j : Nat) (p : Sp), j < i → s.spots[j]? = some p → fnL f j ∈ movesL p) ∧ ∀ j, j + 1 < i → nearB s.strain (fnL f j) (fnL f (j + 1)) = true) (hi : i < s.spots.length) (hq : q = rangesN s p f i) : (-30 ≤ q.x.lo ∧ q.x.lo ≤ 30) ∧ (-30 ≤ q.x.hi ∧ q.x.hi ≤ 30) ∧ (-30 ≤ q.y.lo ∧ q.y.lo ≤ 30) ∧ -30 ≤ q.y.hi ∧ q.y.hi ≤ 30 := by
  obtain ⟨⟨x1, x2, x3, x4⟩, y1, y2, y3, y4⟩ := h.spot p (List.mem_of_getElem? hp)
  unfold rangesN at hq
  by_cases h0 : i = 0
  · rw [if_pos h0] at hq
    subst hq
    omega
  · rw [if_neg h0] at hq
    obtain ⟨p1, hp1⟩ : ∃ p, s.spots[i - 1]? = some p := ⟨_, List.getElem?_eq_getElem (by omega)⟩
    have hb := moves_bd h hp1 (hf.2.1 (i - 1) p1 (by omega) hp1)
    have hs := h.strain
    rw [hq]
    unfold narrowN
    obtain ⟨a, ha⟩ : ∃ a, a = fnL f (i - 1) := ⟨_, rfl⟩
    rw [← ha] at hb ⊢
    dsimp only
    unfold mxI mnI
    refine ⟨?_, ?_, ?_, ?_⟩ <;> split <;> omega
def OldP (v : Value) (W : World) : Prop := ∀ g o, v = .pointer (some ⟨g, o, none⟩) → g < W.heap.size
/-- What truth returns. -/
def TruthR (y : Sm) (ws : List Hlf) (w : World) (e : Ending) (w' : World) : Prop :=
  (∃ f A c, truthK y.s ws y.s.spots.length = some f ∧ e = .returned (.tuple #[.slice A f.length c, .bool true]) ∧ w'.ownsRow w.heap.size 47 2 (.slice A f.length c) f.length (f.flatMap mvL) ∧ newer w w') ∨ (truthK y.s ws y.s.spots.length = none ∧ e = .returned (.tuple #[.slice none 0 0, .bool false]) ∧ newer w w')
set_option maxRecDepth 100000 in
set_option maxHeartbeats 4000000 in
theorem truthP_any (y : Sm) (ws : List Hlf) (B : Option Addr) (bc : Nat) (w : World) (hok : SmOk y w) (hs : SdOk y.s) (hwl : ws.length ≤ maxLen) (hr : Row hwL 1 w w.heap.size B ws) : Calls Try.prog 47 #[smV y, .slice B ws.length bc] w (TruthR y ws w) := by
  have hnw := newer_allocH w (.cells (smC y) 26)
  have hxb := Whole.made w 26 (smC y)
  have HB0 := Lib.hid (And.intro hnw hxb)
  have HOK := Lib.hid hok
  have HSD := Lib.hid hs
  have HR := Lib.hid hr
  have HWL := Lib.hid hwl
  obtain ⟨i0, hi0, hz0, hz1, hz2⟩ := info_parts info_moveR
  have HI := Lib.hid (And.intro hi0 (And.intro hz0 (And.intro hz1 hz2)))
  have hs6 := hs.spots.2
  have hst := hs.strain
  clear hi0 hz0 hz1 hz2 hok hs hr hwl hnw
  have x0 := hxb.at 0 (v := .slice y.sa y.s.spots.length y.sc) rfl
  have x1 := hxb.at 1 (v := vi y.s.strain) rfl
  have x2 := hxb.at 2 (v := .slice y.ta y.s.tools.length y.tc) rfl
  have x3 := hxb.at 3 (v := vi y.s.day) rfl
  have x4 := hxb.at 4 (v := .slice y.ra y.s.reads.length y.rc) rfl
  clear hxb
  go_enter Try.func47, Try.ntmps47
  go_upto_region 3 with fail
  refine genQ (fun X => newer w X ∧ Whole X w.heap.size 26 (smC y)) HB0.out ?_
  rintro w1 ⟨hn1, hb1⟩
  have HB1 := Lib.hid (And.intro hn1 hb1)
  clear x0 x1 x2 x3 x4 hn1 hb1 HB0
  go_loopw [6, 7, 8, 9, 10] (fun s6 s7 s8 s9 _ wr => ∃ (i : Nat) (A : Option Addr) (c : Nat) (f : List Mv), i ≤ y.s.spots.length ∧ s7 = vi i ∧ s6 = .slice A i c ∧ truthK y.s ws i = some f ∧ wr.ownsRow w1.heap.size 47 2 (.slice A i c) i (f.flatMap mvL) ∧ newer w1 wr ∧ OldP s8 wr ∧ OldP s9 wr) (fun _ s7 _ _ _ _ => y.s.spots.length - (intOf s7).toNat)
  case atStart => exact ⟨0, none, 0, [], Nat.zero_le _, rfl, rfl, rfl, ⟨rfl, .inl ⟨rfl, rfl⟩⟩, newer_refl _, (show OldP undef w1 from fun g o h => by cases h), (show OldP undef w1 from fun g o h => by cases h)⟩
  case round =>
    obtain ⟨i, A, c, f, hi, rfl, rfl, hT, hown, hnw, ho8, ho9⟩ := hrel
    have HO8 := Lib.hid ho8
    have HO9 := Lib.hid ho9
    clear ho8 ho9
    have HJ := Lib.hid (And.intro hown (newer_trans HB1.out.1 hnw))
    have HB1N := Lib.hid hnw
    have HT := Lib.hid hT
    have hx := HB1.out.2.below hnw HB1.out.2.lt
    have HX := Lib.hid hx
    have x0 := hx.at 0 (v := .slice y.sa y.s.spots.length y.sc) rfl
    have x1 := hx.at 1 (v := vi y.s.strain) rfl
    have hfl := truth_inv (s := y.s) ws i f hi hT
    by_cases hlt : i < y.s.spots.length
    case neg =>
      obtain rfl : i = y.s.spots.length := by omega
      have hge : ¬ (y.s.spots.length : Int) < y.s.spots.length := by omega
      have HL := Lib.hid hfl.1
      clear hT hown hnw hx hfl
      go_wp2_with fail
      exact bodyPost_ret (v := .tuple #[.slice A y.s.spots.length c, .bool true]) (by simp [results, Try.results47, go_sem]) rfl (show TruthR y ws w _ _ from .inl ⟨f, A, c, HT.out, by rw [HL.out], by rw [HL.out]; exact own_more HJ.out.1 HB1.out.1.size, HJ.out.2⟩)
    case pos =>
      have hin : (i : Int) < y.s.spots.length := by omega
      obtain ⟨p, hp⟩ : ∃ p, y.s.spots[i]? = some p := ⟨_, List.getElem?_eq_getElem hlt⟩
      obtain ⟨sb, so, es, hsb, p0, p1, p2, p3⟩ := row4 (HOK.out.sp.below HJ.out.2) hp
      rw [es] at x0
      have HPP := Lib.hid hp
      have HFI := Lib.hid hfl
      have HIN := Lib.hid hlt
      clear hT hown hnw hp es hfl hx
      go_upto_region 5 with fail
      refine wp_words (by kernel_rfl) (region_lateA 15 14 (by kernel_rfl) (by kernel_rfl) (by decide) (by kernel_rfl) (Apart2 wr 8 9) (pickB [vIs (.pointer (some ⟨w.heap.size, 0, none⟩)), vIs (.slice (some ⟨sb, so, none⟩) y.s.spots.length y.sc), vIs (vi i), vIs (.pointer (some ⟨sb, so + i * 4, none⟩)), vIs (.pointer (some ⟨sb, so + i * 4, none⟩)), vIs (rgV p.x), vIs (.pointer (some ⟨w.heap.size, 0, none⟩)), vIs (.slice (some ⟨sb, so, none⟩) y.s.spots.length y.sc), vIs (vi i), vIs (.pointer (some ⟨sb, so + i * 4, none⟩)), vIs (.pointer (some ⟨sb, so + i * 4 + 2, none⟩)), vIs (rgV p.y), vNew wr.heap.size 71 #[vi 0, vi 0], vNew wr.heap.size 71 #[vi 0, vi 0], (fun _ _ => True)] [(fun _ _ => True), (fun _ _ => True), (fun _ _ => True), (fun _ _ => True), (fun _ _ => True), (fun _ _ => True), vIs (.pointer (some ⟨w.heap.size, 0, none⟩)), vIs (.slice (some ⟨sb, so, none⟩) y.s.spots.length y.sc), vIs (vi i), vIs (.pointer (some ⟨sb, so + i * 4, none⟩)), vIs (.pointer (some ⟨sb, so + i * 4 + 2, none⟩)), vIs (rgV p.y), vNew wr.heap.size 71 #[vi p.x.lo, vi p.x.hi], vNew wr.heap.size 71 #[vi 0, vi 0], (fun _ _ => True)]) (pickB_stable ⟨vIs_st, vIs_st, vIs_st, vIs_st, vIs_st, vIs_st, vIs_st, vIs_st, vIs_st, vIs_st, vIs_st, vIs_st, vNew_st, vNew_st, (fun _ _ _ h _ => h), trivial⟩ ⟨(fun _ _ _ h _ => h), (fun _ _ _ h _ => h), (fun _ _ _ h _ => h), (fun _ _ _ h _ => h), (fun _ _ _ h _ => h), (fun _ _ _ h _ => h), vIs_st, vIs_st, vIs_st, vIs_st, vIs_st, vIs_st, vNew_st, vNew_st, (fun _ _ _ h _ => h), trivial⟩) (Apart2.start (fun g o h => HO8.out g o h) (fun g o h => HO9.out g o h)) ?_ ?_)
      · refine ⟨?_, ?_, ?_, ?_, ?_, ?_, ?_, ?_, ?_, ?_, ?_, ?_, ?_, ?_, ?_, trivial⟩
        · intro a W hA hO hp
          have hG := hA.bl
          have h2 := hO.slot 2 (by kernel_rfl)
          refine wp_yields (v := .pointer (some ⟨w.heap.size, 0, none⟩)) ?_ ⟨_, rfl, rfl, Below.refl _ _, hA.put (Below.refl _ _) (by decide) (by decide)⟩
          simp [slotOf] at h2
          simp [execOp, go_sem, h2]
        · intro a W hA hO hp
          have hG := hA.bl
          have h18 : slotOf a 18 = .pointer (some ⟨w.heap.size, 0, none⟩) := hp.1
          have c0 := keep_cell x0 hG
          refine wp_yields (v := .slice (some ⟨sb, so, none⟩) y.s.spots.length y.sc) ?_ ⟨_, rfl, rfl, Below.refl _ _, hA.put (Below.refl _ _) (by decide) (by decide)⟩
          simp [slotOf] at h18
          simp [execOp, go_sem, h18, c0]
        · intro a W hA hO hp
          have hG := hA.bl
          have h7 := hO.slot 7 (by kernel_rfl)
          refine wp_yields (v := vi i) ?_ ⟨_, rfl, rfl, Below.refl _ _, hA.put (Below.refl _ _) (by decide) (by decide)⟩
          simp [slotOf] at h7
          simp [execOp, go_sem, h7]
        · intro a W hA hO hp
          have hG := hA.bl
          have h19 : slotOf a 19 = .slice (some ⟨sb, so, none⟩) y.s.spots.length y.sc := hp.1
          have h20 : slotOf a 20 = vi i := hp.2.1
          refine wp_yields (v := .pointer (some ⟨sb, so + i * 4, none⟩)) ?_ ⟨_, rfl, rfl, Below.refl _ _, hA.put (Below.refl _ _) (by decide) (by decide)⟩
          simp [slotOf] at h19 h20
          simp [execOp, go_sem, h19, h20, hin]
        · intro a W hA hO hp
          have hG := hA.bl
          have h21 : slotOf a 21 = .pointer (some ⟨sb, so + i * 4, none⟩) := hp.1
          refine wp_yields (v := .pointer (some ⟨sb, so + i * 4, none⟩)) ?_ ⟨_, rfl, rfl, Below.refl _ _, hA.put (Below.refl _ _) (by decide) (by decide)⟩
          simp [slotOf] at h21
          simp [execOp, go_sem, h21]
        · intro a W hA hO hp
          have hG := hA.bl
          have h22 : slotOf a 22 = .pointer (some ⟨sb, so + i * 4, none⟩) := hp.1
          have c0 := keep_cell p0 hG
          have c1 := keep_cell p1 hG
          refine wp_yields (v := rgV p.x) ?_ ⟨_, rfl, rfl, Below.refl _ _, hA.put (Below.refl _ _) (by decide) (by decide)⟩
          simp [slotOf] at h22
          simp [execOp, go_sem, h22, c0, c1]
        · intro b a W hA hO hp
          have hG := hA.bl
          have h2 := hO.slot 2 (by kernel_rfl)
          refine wp_yields (v := .pointer (some ⟨w.heap.size, 0, none⟩)) ?_ ⟨_, rfl, (by cases b <;> rfl), Below.refl _ _, hA.put (Below.refl _ _) (by decide) (by decide)⟩
          simp [slotOf] at h2
          simp [execOp, go_sem, h2]
        · intro b a W hA hO hp
          have hG := hA.bl
          have h24 : slotOf a 24 = .pointer (some ⟨w.heap.size, 0, none⟩) := by cases b <;> exact hp.1
          have c0 := keep_cell x0 hG
          refine wp_yields (v := .slice (some ⟨sb, so, none⟩) y.s.spots.length y.sc) ?_ ⟨_, rfl, (by cases b <;> rfl), Below.refl _ _, hA.put (Below.refl _ _) (by decide) (by decide)⟩
          simp [slotOf] at h24
          simp [execOp, go_sem, h24, c0]
        · intro b a W hA hO hp
          have hG := hA.bl
          have h7 := hO.slot 7 (by kernel_rfl)
          refine wp_yields (v := vi i) ?_ ⟨_, rfl, (by cases b <;> rfl), Below.refl _ _, hA.put (Below.refl _ _) (by decide) (by decide)⟩
          simp [slotOf] at h7
          simp [execOp, go_sem, h7]
        · intro b a W hA hO hp
          have hG := hA.bl
          have h25 : slotOf a 25 = .slice (some ⟨sb, so, none⟩) y.s.spots.length y.sc := by cases b <;> exact hp.1
          have h26 : slotOf a 26 = vi i := by cases b <;> exact hp.2.1
          refine wp_yields (v := .pointer (some ⟨sb, so + i * 4, none⟩)) ?_ ⟨_, rfl, (by cases b <;> rfl), Below.refl _ _, hA.put (Below.refl _ _) (by decide) (by decide)⟩
          simp [slotOf] at h25 h26
          simp [execOp, go_sem, h25, h26, hin]
        · intro b a W hA hO hp
          have hG := hA.bl
          have h27 : slotOf a 27 = .pointer (some ⟨sb, so + i * 4, none⟩) := by cases b <;> exact hp.1
          refine wp_yields (v := .pointer (some ⟨sb, so + i * 4 + 2, none⟩)) ?_ ⟨_, rfl, (by cases b <;> rfl), Below.refl _ _, hA.put (Below.refl _ _) (by decide) (by decide)⟩
          simp [slotOf] at h27
          simp [execOp, go_sem, h27]
        · intro b a W hA hO hp
          have hG := hA.bl
          have h28 : slotOf a 28 = .pointer (some ⟨sb, so + i * 4 + 2, none⟩) := by cases b <;> exact hp.1
          have c0 := keep_cell p2 hG
          have c1 := keep_cell p3 hG
          refine wp_yields (v := rgV p.y) ?_ ⟨_, rfl, (by cases b <;> rfl), Below.refl _ _, hA.put (Below.refl _ _) (by decide) (by decide)⟩
          simp [slotOf] at h28
          simp [execOp, go_sem, h28, c0, c1]
        · intro a W hA hO hp
          have hG := hA.bl
          refine wp_makes (v := .pointer (some ⟨W.heap.size, 0, none⟩)) (W' := W.alloc (.cells #[vi 0, vi 0] 71)) ?_ ⟨_, rfl, ⟨_, rfl, hG.size, Whole.made _ _ _⟩, newer_allocH _ _, hA.newP (by decide) _⟩
          skip
          simp [execOp, go_sem]
        · intro a W hA hO hp
          have hG := hA.bl
          refine wp_makes (v := .pointer (some ⟨W.heap.size, 0, none⟩)) (W' := W.alloc (.cells #[vi 0, vi 0] 71)) ?_ ⟨_, rfl, ⟨_, rfl, hG.size, Whole.made _ _ _⟩, newer_allocH _ _, hA.newQ (by decide) _⟩
          skip
          simp [execOp, go_sem]
        · intro a W hA hO hp
          have hG := hA.bl
          have h8 := hp.1
          have h23 : slotOf a 23 = rgV p.x := hp.2.1
          obtain ⟨g, h8, hg, hW⟩ := h8
          have b0 := hW.at 0 rfl
          have b1 := hW.at 1 rfl
          have f0 := hW.free 0
          have f1 := hW.free 1
          have hq := h8
          simp [slotOf] at h8 h23
          refine wp_storesE (W' := (W.setCell ⟨g, 0, none⟩ (vi p.x.lo)).setCell ⟨g, 1, none⟩ (vi p.x.hi)) (by simp [execOp, go_sem, h8, h23, b0, b1, f0, f1]) ⟨rfl, hA.step ((hG.setCell (p := ⟨g, 0, none⟩) hg _).setCell (p := ⟨g, 1, none⟩) hg _) (by simp), ?_⟩
          intro j oj d hj hoj hd hD
          match j, hoj, hD with
          | 0, _, _ => trivial
          | 1, _, _ => trivial
          | 2, _, _ => trivial
          | 3, _, _ => trivial
          | 4, _, _ => trivial
          | 5, _, _ => trivial
          | 6, _, hD =>
            exact hD
          | 7, _, hD =>
            exact hD
          | 8, _, hD =>
            exact hD
          | 9, _, hD =>
            exact hD
          | 10, _, hD =>
            exact hD
          | 11, _, hD =>
            exact hD
          | 12, hoj, _ =>
            obtain rfl := Option.some.inj hoj
            obtain rfl := Option.some.inj hd
            exact ⟨g, hq, hg, (hW.set 0 _).set 1 _⟩
          | 13, hoj, hD =>
            obtain rfl := Option.some.inj hoj
            obtain rfl := Option.some.inj hd
            obtain ⟨g2, h1, h2, h3⟩ := hD
            have hne := hA.ne g 0 g2 0 hq h1 hg h2
            exact ⟨g2, h1, h2, (h3.far (p := ⟨g, 0, none⟩) (Ne.symm hne) _).far (p := ⟨g, 1, none⟩) (Ne.symm hne) _⟩
          | 14, _, _ => trivial
          | (_ + 15), _, _ => omega
      · intro w5
        rintro _ - _ - _ - _ - _ - _ - _ rfl _ rfl _ rfl _ rfl _ rfl _ rfl _ ⟨gx, rfl, hgx, hWx⟩ _ ⟨gy, rfl, hgy, hWy⟩ hA
        change wpList _ _ _ _ _ _
        simp only [Act.put, List.setIfInBounds_toArray, List.set_cons_zero, List.set_cons_succ, List.drop_succ_cons, List.drop_zero]
        have hne := hA.ne gx 0 gy 0 (by kernel_rfl) (by kernel_rfl) hgx hgy
        have v0 := hWy.at 0 rfl
        have v1 := hWy.at 1 rfl
        have f0 := hWy.free 0
        have f1 := hWy.free 1
        have HW5 := Lib.hid (And.intro hA.bl (And.intro hWx (And.intro hWy (And.intro hne hgy))))
        have HX5 := Lib.hid (HX.out.below hA.bl HX.out.lt)
        have HGX := Lib.hid (And.intro hgx hgy)
        clear hgx hgy hWx hWy hA hne p0 p1 p2 p3 x0
        have xb1 := HX5.out.at 1 (v := vi y.s.strain) rfl
        go_upto_region 6 with fail
        refine genQ (fun X => newer wr X ∧ Whole X gx 71 #[vi p.x.lo, vi p.x.hi] ∧ Whole X gy 71 #[vi p.y.lo, vi p.y.hi]) ⟨(HW5.out.1.setCell (p := ⟨gy, 0, none⟩) HW5.out.2.2.2.2 _).setCell (p := ⟨gy, 1, none⟩) HW5.out.2.2.2.2 _, (HW5.out.2.1.far (p := ⟨gy, 0, none⟩) HW5.out.2.2.2.1 _).far (p := ⟨gy, 1, none⟩) HW5.out.2.2.2.1 _, (HW5.out.2.2.1.set 0 _).set 1 _⟩ ?_
        rintro w6 ⟨hn6, hx6, hy6⟩
        clear v0 v1 f0 f1 xb1 x1
        by_cases hi0 : i = 0
        case pos =>
          have hb0 : ¬ (0 : Int) < i := by omega
          obtain ⟨q, hqq⟩ : ∃ q, q = rangesN y.s p f i := ⟨_, rfl⟩
          have hqp : q = p := by rw [hqq]; unfold rangesN; rw [if_pos hi0]
          rw [← hqp] at hx6 hy6
          have HQQ0 := Lib.hid hqq
          clear hqp hi0 HW5 hqq
          go_upto_region 9 with fail
          refine genQ (fun X => newer wr X ∧ Whole X gx 71 #[vi q.x.lo, vi q.x.hi] ∧ Whole X gy 71 #[vi q.y.lo, vi q.y.hi]) ⟨hn6, hx6, hy6⟩ ?_
          clear hn6 hx6 hy6
          rintro w9 ⟨hn9, hx9, hy9⟩
          have HQQ := HQQ0
          have HOW := Lib.hid (And.intro (own_below HJ.out.1 hn9) (newer_trans HJ.out.2 hn9))
          have HXN := Lib.hid (And.intro (show some gx ≠ (Value.slice A i c).ownBlock from (own_ne (own_below HJ.out.1 hn9) hx9 (by decide)).symm) (show some gy ≠ (Value.slice A i c).ownBlock from (own_ne (own_below HJ.out.1 hn9) hy9 (by decide)).symm))
          have u0 := hx9.at 0 (v := vi q.x.lo) rfl
          have u1 := hx9.at 1 (v := vi q.x.hi) rfl
          have u2 := hy9.at 0 (v := vi q.y.lo) rfl
          have u3 := hy9.at 1 (v := vi q.y.hi) rfl
          have HN9 := Lib.hid hn9
          have HLT := Lib.hid (And.intro hx9.lt hy9.lt)
          clear hn9 hx9 hy9 HQQ0
          by_cases hc : q.x.hi < q.x.lo
          case pos =>
            have HNO := Lib.hid (show truthK y.s ws y.s.spots.length = none from truthK_stop (by have := HIN.out; omega) HT.out HPP.out HQQ.out (.inl hc))
            go_wp2_with fail
            exact bodyPost_ret (v := .tuple #[.slice none 0 0, .bool false]) (by simp [results, Try.results47, go_sem]) rfl (show TruthR y ws w _ _ from .inr ⟨HNO.out, rfl, newer_trans HJ.out.2 HN9.out⟩)
          case neg =>
            by_cases hd : q.y.hi < q.y.lo
            case pos =>
              have HNO := Lib.hid (show truthK y.s ws y.s.spots.length = none from truthK_stop (by have := HIN.out; omega) HT.out HPP.out HQQ.out (.inr hd))
              go_wp2_with fail
              exact bodyPost_ret (v := .tuple #[.slice none 0 0, .bool false]) (by simp [results, Try.results47, go_sem]) rfl (show TruthR y ws w _ _ from .inr ⟨HNO.out, rfl, newer_trans HJ.out.2 HN9.out⟩)
            case neg =>
              have hqb := ranges_bd HSD.out HPP.out HFI.out HIN.out HQQ.out
              obtain ⟨m, hm⟩ : ∃ m : Mv, m = (pickN q.x.lo q.x.hi ws (2 * i), pickN q.y.lo q.y.hi ws (2 * i + 1)) := ⟨_, rfl⟩
              have HGO := Lib.hid (show truthK y.s ws (i + 1) = some (f ++ [m]) from by rw [hm]; exact truthK_go HT.out HPP.out HQQ.out hc hd)
              have ei2 : IntKind.i64.wrap (2 * (i : Int)) = 2 * i := IntWalk.i64_in _ (by omega)
              have ei3 : IntKind.i64.wrap (2 * (i : Int) + 1) = 2 * i + 1 := IntWalk.i64_in _ (by omega)
              have HP1 : Hid (∀ W, newer w W → Calls Try.prog 79 #[vi q.x.lo, vi q.x.hi, .slice B ws.length bc, vi (2 * i)] W fun e w' => e = .returned (vi m.1) ∧ newer W w') := Lib.hid (fun W hW => by
                have h := pick_any q.x.lo q.x.hi ws B bc (2 * i) W (by omega) HWL.out (by omega) ((HR.out.below hW).more hW.size)
                rw [show ((2 * i : Nat) : Int) = 2 * (i : Int) by omega] at h
                rw [hm]
                exact h)
              have HP2 : Hid (∀ W, newer w W → Calls Try.prog 79 #[vi q.y.lo, vi q.y.hi, .slice B ws.length bc, vi (2 * i + 1)] W fun e w' => e = .returned (vi m.2) ∧ newer W w') := Lib.hid (fun W hW => by
                have h := pick_any q.y.lo q.y.hi ws B bc (2 * i + 1) W (by omega) HWL.out (by omega) ((HR.out.below hW).more hW.size)
                rw [show ((2 * i + 1 : Nat) : Int) = 2 * (i : Int) + 1 by omega] at h
                rw [hm]
                exact h)
              have HFEW := Lib.hid (show i < 1000 by omega)
              have HSZ := Lib.hid (newer_trans HB1N.out HN9.out).size
              have HNW := Lib.hid (own_lt HOW.out.1)
              clear hqb hm
              go_upto_region 11 with fail
              refine wp_words (by kernel_rfl) (region_tale 21 (by kernel_rfl) (by kernel_rfl) 20 (fun W => w9.grownBy W (Value.slice A i c).ownBlock) (fun W => W.ownsRow (w1.heap.size) 47 2 (.slice A i c) i (f.flatMap mvL) ∧ newer w9 W) (relAt 20 (fun W W' => W.grownBy W' (Value.slice A i c).ownBlock)) (pickD [vIs (.slice A i c), vIs (.pointer (some ⟨gx, 0, none⟩)), vIs (vi q.x.lo), vIs (.pointer (some ⟨gx, 1, none⟩)), vIs (vi q.x.hi), vIs (.slice B ws.length bc), vIs (vi i), vIs (vi (2 * i)), vIs (vi m.1), vIs (.pointer (some ⟨gy, 0, none⟩)), vIs (vi q.y.lo), vIs (.pointer (some ⟨gy, 1, none⟩)), vIs (vi q.y.hi), vIs (.slice B ws.length bc), vIs (vi i), vIs (vi (2 * i)), vIs (vi (2 * i + 1)), vIs (vi m.2), vIs (mvV m), vOne w9.heap.size 47 #[vi m.1, vi m.2], vOwnV w1.heap.size 47 2 (i + 1) (f.flatMap mvL ++ [m].flatMap mvL)]) (allBut_ok (fun _ _ h => grown_of_newer h _) _ ⟨vIs_st, vIs_st, vIs_st, vIs_st, vIs_st, vIs_st, vIs_st, vIs_st, vIs_st, vIs_st, vIs_st, vIs_st, vIs_st, vIs_st, vIs_st, vIs_st, vIs_st, vIs_st, vIs_st, vOne_grown HNW.out, vOwnV_st, trivial⟩) (by decide) (grown_drew (grown_refl _ _)) ⟨HOW.out.1, (Below.refl _ _).drew⟩ ?_ ?_)
              · refine ⟨?_, ?_, ?_, ?_, ?_, ?_, ?_, ?_, ?_, ?_, ?_, ?_, ?_, ?_, ?_, ?_, ?_, ?_, ?_, ?_, ?_, trivial⟩
                · intro a W hG hG1 hO hp
                  have h6 := hO.slot 6 (by kernel_rfl)
                  refine wp_yields (v := .slice A i c) ?_ ⟨_, rfl, rfl, newer_refl _, hG, fun _ h => h⟩
                  simp [slotOf] at h6
                  simp [execOp, go_sem, h6]
                · intro a W hG hG1 hO hp
                  have h8 := hO.slot 8 (by kernel_rfl)
                  refine wp_yields (v := .pointer (some ⟨gx, 0, none⟩)) ?_ ⟨_, rfl, rfl, newer_refl _, hG, fun _ h => h⟩
                  simp [slotOf] at h8
                  simp [execOp, go_sem, h8]
                · intro a W hG hG1 hO hp
                  have h84 : slotOf a 84 = .pointer (some ⟨gx, 0, none⟩) := hp.1
                  have c0 := hG.cell u0 HXN.out.1
                  refine wp_yields (v := vi q.x.lo) ?_ ⟨_, rfl, rfl, newer_refl _, hG, fun _ h => h⟩
                  simp [slotOf] at h84
                  simp [execOp, go_sem, h84, c0]
                · intro a W hG hG1 hO hp
                  have h8 := hO.slot 8 (by kernel_rfl)
                  refine wp_yields (v := .pointer (some ⟨gx, 1, none⟩)) ?_ ⟨_, rfl, rfl, newer_refl _, hG, fun _ h => h⟩
                  simp [slotOf] at h8
                  simp [execOp, go_sem, h8]
                · intro a W hG hG1 hO hp
                  have h86 : slotOf a 86 = .pointer (some ⟨gx, 1, none⟩) := hp.1
                  have c0 := hG.cell u1 HXN.out.1
                  refine wp_yields (v := vi q.x.hi) ?_ ⟨_, rfl, rfl, newer_refl _, hG, fun _ h => h⟩
                  simp [slotOf] at h86
                  simp [execOp, go_sem, h86, c0]
                · intro a W hG hG1 hO hp
                  have h1 := hO.slot 1 (by kernel_rfl)
                  refine wp_yields (v := .slice B ws.length bc) ?_ ⟨_, rfl, rfl, newer_refl _, hG, fun _ h => h⟩
                  simp [slotOf] at h1
                  simp [execOp, go_sem, h1]
                · intro a W hG hG1 hO hp
                  have h7 := hO.slot 7 (by kernel_rfl)
                  refine wp_yields (v := vi i) ?_ ⟨_, rfl, rfl, newer_refl _, hG, fun _ h => h⟩
                  simp [slotOf] at h7
                  simp [execOp, go_sem, h7]
                · intro a W hG hG1 hO hp
                  have h89 : slotOf a 89 = vi i := hp.1
                  refine wp_yields (v := vi (2 * i)) ?_ ⟨_, rfl, rfl, newer_refl _, hG, fun _ h => h⟩
                  simp [slotOf] at h89
                  simp [execOp, go_sem, h89, ei2]
                · intro a W hG hG1 hO hp
                  have h85 : slotOf a 85 = vi q.x.lo := hp.1
                  have h87 : slotOf a 87 = vi q.x.hi := hp.2.1
                  have h88 : slotOf a 88 = .slice B ws.length bc := hp.2.2.1
                  have h90 : slotOf a 90 = vi (2 * i) := hp.2.2.2.1
                  refine wp_enters (f := 79) (args := #[vi q.x.lo, vi q.x.hi, .slice B ws.length bc, vi (2 * i)]) ?_ ((HP1.out W (below_row HOW.out.2 HOW.out.1 hG HB1.out.1.size)).mono ?_)
                  · simp [slotOf] at h85 h87 h88 h90
                    simp [go_sem, h85, h87, h88, h90]
                  · rintro e w' ⟨rfl, hb⟩
                    exact ⟨_, rfl, _, rfl, rfl, hb, grown_below hG hb, fun _ h => ⟨own_below h.1 hb, newer_trans h.2 hb⟩⟩
                · intro a W hG hG1 hO hp
                  have h9 := hO.slot 9 (by kernel_rfl)
                  refine wp_yields (v := .pointer (some ⟨gy, 0, none⟩)) ?_ ⟨_, rfl, rfl, newer_refl _, hG, fun _ h => h⟩
                  simp [slotOf] at h9
                  simp [execOp, go_sem, h9]
                · intro a W hG hG1 hO hp
                  have h92 : slotOf a 92 = .pointer (some ⟨gy, 0, none⟩) := hp.1
                  have c0 := hG.cell u2 HXN.out.2
                  refine wp_yields (v := vi q.y.lo) ?_ ⟨_, rfl, rfl, newer_refl _, hG, fun _ h => h⟩
                  simp [slotOf] at h92
                  simp [execOp, go_sem, h92, c0]
                · intro a W hG hG1 hO hp
                  have h9 := hO.slot 9 (by kernel_rfl)
                  refine wp_yields (v := .pointer (some ⟨gy, 1, none⟩)) ?_ ⟨_, rfl, rfl, newer_refl _, hG, fun _ h => h⟩
                  simp [slotOf] at h9
                  simp [execOp, go_sem, h9]
                · intro a W hG hG1 hO hp
                  have h94 : slotOf a 94 = .pointer (some ⟨gy, 1, none⟩) := hp.1
                  have c0 := hG.cell u3 HXN.out.2
                  refine wp_yields (v := vi q.y.hi) ?_ ⟨_, rfl, rfl, newer_refl _, hG, fun _ h => h⟩
                  simp [slotOf] at h94
                  simp [execOp, go_sem, h94, c0]
                · intro a W hG hG1 hO hp
                  have h1 := hO.slot 1 (by kernel_rfl)
                  refine wp_yields (v := .slice B ws.length bc) ?_ ⟨_, rfl, rfl, newer_refl _, hG, fun _ h => h⟩
                  simp [slotOf] at h1
                  simp [execOp, go_sem, h1]
                · intro a W hG hG1 hO hp
                  have h7 := hO.slot 7 (by kernel_rfl)
                  refine wp_yields (v := vi i) ?_ ⟨_, rfl, rfl, newer_refl _, hG, fun _ h => h⟩
                  simp [slotOf] at h7
                  simp [execOp, go_sem, h7]
                · intro a W hG hG1 hO hp
                  have h97 : slotOf a 97 = vi i := hp.1
                  refine wp_yields (v := vi (2 * i)) ?_ ⟨_, rfl, rfl, newer_refl _, hG, fun _ h => h⟩
                  simp [slotOf] at h97
                  simp [execOp, go_sem, h97, ei2]
                · intro a W hG hG1 hO hp
                  have h98 : slotOf a 98 = vi (2 * i) := hp.1
                  refine wp_yields (v := vi (2 * i + 1)) ?_ ⟨_, rfl, rfl, newer_refl _, hG, fun _ h => h⟩
                  simp [slotOf] at h98
                  simp [execOp, go_sem, h98, ei3]
                · intro a W hG hG1 hO hp
                  have h93 : slotOf a 93 = vi q.y.lo := hp.1
                  have h95 : slotOf a 95 = vi q.y.hi := hp.2.1
                  have h96 : slotOf a 96 = .slice B ws.length bc := hp.2.2.1
                  have h99 : slotOf a 99 = vi (2 * i + 1) := hp.2.2.2.1
                  refine wp_enters (f := 79) (args := #[vi q.y.lo, vi q.y.hi, .slice B ws.length bc, vi (2 * i + 1)]) ?_ ((HP2.out W (below_row HOW.out.2 HOW.out.1 hG HB1.out.1.size)).mono ?_)
                  · simp [slotOf] at h93 h95 h96 h99
                    simp [go_sem, h93, h95, h96, h99]
                  · rintro e w' ⟨rfl, hb⟩
                    exact ⟨_, rfl, _, rfl, rfl, hb, grown_below hG hb, fun _ h => ⟨own_below h.1 hb, newer_trans h.2 hb⟩⟩
                · intro a W hG hG1 hO hp
                  have h91 : slotOf a 91 = vi m.1 := hp.1
                  have h100 : slotOf a 100 = vi m.2 := hp.2.1
                  refine wp_yields (v := mvV m) ?_ ⟨_, rfl, rfl, newer_refl _, hG, fun _ h => h⟩
                  simp [slotOf] at h91 h100
                  simp [execOp, go_sem, h91, h100]
                · intro a W hG hG1 hO hp
                  have h101 : slotOf a 101 = mvV m := hp.1
                  refine wp_makes (v := .slice (some ⟨W.heap.size, 0, none⟩) 1 1) (W' := W.alloc (.cells #[vi m.1, vi m.2] 47)) ?_ ⟨_, rfl, ⟨_, rfl, hG.size, Whole.made _ _ _⟩, newer_allocH _ _, grown_alloc hG _, fun _ h => ⟨own_below h.1 (newer_allocH _ _), newer_trans h.2 (newer_allocH _ _)⟩⟩
                  simp [slotOf] at h101
                  simp [execOp, go_sem, h101]
                · intro a W hG hG1 hO hp
                  have h83 : slotOf a 83 = .slice A i c := hp.1
                  have h102 := hp.2.1
                  obtain ⟨nb, h102, hnb, hW⟩ := h102
                  obtain ⟨ho, hnw⟩ := hG1 rfl
                  obtain ⟨hi0, hz0, hz1, hz2⟩ := HI.out
                  refine wp_append_all (enc := mvL) (size := 2) (w1.heap.size) (.tmp 83) (.tmp 102) 34 47 i0 (.agg #[vi 0, vi 0]) 16 Try.underlying34 hi0 hz0 hz1 hz2 rfl (by omega) (fun _ => rfl) mvL_one rfl A i c (f.flatMap mvL) ((eval_slot a 83).trans h83) ho [m] (some ⟨nb, 0, none⟩) 1 ((eval_slot a 102).trans h102) (row_of_whole (enc := mvL) (s := 2) (fun _ => rfl) hW rfl) (by have := HFEW.out; unfold maxLen; simp only [List.length_singleton]; omega) (by have := HFEW.out; simp only [List.length_singleton]; omega) (Nat.le_trans HSZ.out hG.size) ?_
                  intro B c' w1 hown hgr hat
                  exact ⟨_, rfl, ⟨B, c', rfl, hown⟩, hgr, grown_trans' hG hgr, fun e => absurd rfl e⟩
              · intro w10 hG
                rintro _ rfl _ rfl _ rfl _ rfl _ rfl _ rfl _ rfl _ rfl _ rfl _ rfl _ rfl _ rfl _ rfl _ rfl _ rfl _ rfl _ rfl _ rfl _ rfl _ hv102 _ ⟨B2, c2, rfl, hown⟩
                change wpList _ _ _ _ _ _
                simp only [Act.put, List.setIfInBounds_toArray, List.set_cons_zero, List.set_cons_succ, List.drop_succ_cons, List.drop_zero]
                have HE := Lib.hid (And.intro hown trivial)
                have HGR := Lib.hid hG
                clear hG hown u0 u1 u2 u3 hv102
                go_wp2_with fail
                refine ⟨⟨i + 1, B2, c2, f ++ [m], by omega, rfl, rfl, HGO.out, by have h := HE.out.1; rw [← List.flatMap_append] at h; exact h, below_row (newer_trans HB1N.out HN9.out) HOW.out.1 HGR.out (Nat.le_refl _), fun g o h => by injection h with h; injection h with h; injection h with h; rw [← h]; exact Nat.lt_of_lt_of_le HLT.out.1 HGR.out.size, fun g o h => by injection h with h; injection h with h; injection h with h; rw [← h]; exact Nat.lt_of_lt_of_le HLT.out.2 HGR.out.size⟩, ?_⟩
                simp [intOf]
                omega
        case neg =>
          have hb0 : (0 : Int) < i := by omega
          obtain ⟨i1, hi1⟩ : ∃ i1, i = i1 + 1 := ⟨i - 1, by omega⟩
          have e1 : (i : Int) - 1 = (i1 : Int) := by omega
          have ei : IntKind.i64.wrap ((i : Int) - 1) = (i1 : Int) := by rw [e1]; exact IntWalk.i64_in _ (by omega)
          have hi1n : (i1 : Int) < i := by omega
          obtain ⟨p1, hp1⟩ : ∃ p, y.s.spots[i1]? = some p := ⟨_, List.getElem?_eq_getElem (by omega)⟩
          obtain ⟨m0, hm0⟩ : ∃ m, f[i1]? = some m := ⟨_, List.getElem?_eq_getElem (by have := HFI.out.1; omega)⟩
          have hfm : fnL f i1 = m0 := fnL_at hm0
          have hmb := moves_bd (m := m0) HSD.out hp1 (by rw [← hfm]; exact HFI.out.2.1 i1 p1 (by omega) hp1)
          obtain ⟨q, hqq⟩ : ∃ q, q = rangesN y.s p f i := ⟨_, rfl⟩
          have hqn : q = narrowN y.s.strain p m0 := by rw [hqq]; unfold rangesN; rw [if_neg hi0, show i - 1 = i1 by omega, hfm]
          have eq1 : q.x.lo = mxI p.x.lo (m0.1 - y.s.strain) := by rw [hqn]; rfl
          have eq2 : q.x.hi = mnI p.x.hi (m0.1 + y.s.strain) := by rw [hqn]; rfl
          have eq3 : q.y.lo = mxI p.y.lo (m0.2 - y.s.strain) := by rw [hqn]; rfl
          have eq4 : q.y.hi = mnI p.y.hi (m0.2 + y.s.strain) := by rw [hqn]; rfl
          have HQQ0 := Lib.hid hqq
          have HE4 := Lib.hid (And.intro eq1 (And.intro eq2 (And.intro eq3 eq4)))
          have hst1 := HSD.out.strain.1
          have hst2 := HSD.out.strain.2
          have ew1 : IntKind.i64.wrap (m0.1 - y.s.strain) = m0.1 - y.s.strain := IntWalk.i64_in _ (by omega)
          have ew2 : IntKind.i64.wrap (m0.1 + y.s.strain) = m0.1 + y.s.strain := IntWalk.i64_in _ (by omega)
          have ew3 : IntKind.i64.wrap (m0.2 - y.s.strain) = m0.2 - y.s.strain := IntWalk.i64_in _ (by omega)
          have ew4 : IntKind.i64.wrap (m0.2 + y.s.strain) = m0.2 + y.s.strain := IntWalk.i64_in _ (by omega)
          have how6 := own_below HJ.out.1 hn6
          obtain ⟨fb, fo, ef, _, m0c, m1c⟩ := row2 (row_of_own (enc := mvL) (size := 2) (by decide) (fun _ => rfl) (show w6.ownsRow w1.heap.size 47 2 (.slice A f.length c) f.length (f.flatMap mvL) by rw [HFI.out.1]; exact how6)) hm0
          have HEF := Lib.hid ef
          rw [ef]
          have HWS := Lib.hid (And.intro hn6 (And.intro hx6 (And.intro hy6 HW5.out.2.2.2)))
          clear hi1 hp1 hm0 hfm hmb hqn hqq eq1 eq2 eq3 eq4 how6 ef hn6 hx6 hy6 HW5 hi0 hst1 hst2
          go_upto_region 8 with fail
          rw [← HEF.out]
          obtain ⟨gm, hgm⟩ : ∃ r, r = w6.heap.size := ⟨_, rfl⟩
          rw [← hgm]
          have hna := newer_allocH w6 (.cells #[vi m0.1, vi m0.2] 47)
          refine genQ (fun X => newer wr X ∧ Whole X gx 71 #[vi p.x.lo, vi p.x.hi] ∧ Whole X gy 71 #[vi p.y.lo, vi p.y.hi] ∧ Whole X gm 47 #[vi m0.1, vi m0.2]) ⟨newer_trans HWS.out.1 hna, HWS.out.2.1.below hna HWS.out.2.1.lt, HWS.out.2.2.1.below hna HWS.out.2.2.1.lt, by rw [hgm]; exact Whole.made _ _ _⟩ ?_
          rintro w7 ⟨hn7, hx7, hy7, hm7⟩
          have u0 := hx7.at 0 (v := vi p.x.lo) rfl
          have u1 := hx7.at 1 (v := vi p.x.hi) rfl
          have u2 := hy7.at 0 (v := vi p.y.lo) rfl
          have u3 := hy7.at 1 (v := vi p.y.hi) rfl
          have k0 := hm7.at 0 (v := vi m0.1) rfl
          have k1 := hm7.at 1 (v := vi m0.2) rfl
          have x1 := (HX.out.below hn7 HX.out.lt).at 1 (v := vi y.s.strain) rfl
          have HW7 := Lib.hid (And.intro hn7 (And.intro hx7 (And.intro hy7 (And.intro hm7 (And.intro (HX.out.below hn7 HX.out.lt) HWS.out.2.2.2)))))
          have hgxw : gx ≠ w.heap.size := fun e => by have h1 := HGX.out.1; have h2 := HX.out.lt; omega
          have hgxm : gx ≠ gm := fun e => by have h1 := HWS.out.2.1.lt; omega
          have HNE := Lib.hid (And.intro HWS.out.2.2.2.1 (And.intro hgxm hgxw))
          obtain ⟨eq1, eq2, eq3, eq4⟩ := HE4.out
          clear hn7 hx7 hy7 hm7 hgm hna HWS m0c m1c
          refine wp_words (by kernel_rfl) (region_lateG 35 34 (by kernel_rfl) (by kernel_rfl) (by decide) (by kernel_rfl) (fun b W => newer wr W ∧ Whole W gx 71 (bif b then #[vi q.x.lo, vi q.x.hi] else #[vi p.x.lo, vi p.x.hi]) ∧ Whole W gy 71 #[vi p.y.lo, vi p.y.hi] ∧ Whole W gm 47 #[vi m0.1, vi m0.2] ∧ Whole W w.heap.size 26 (smC y)) (pickB [vIs (.pointer (some ⟨gx, 0, none⟩)), vIs (vi p.x.lo), vIs (.pointer (some ⟨gm, 0, none⟩)), vIs (vi m0.1), vIs (.pointer (some ⟨w.heap.size, 1, none⟩)), vIs (vi y.s.strain), vIs (vi (m0.1 - y.s.strain)), vIs (vi q.x.lo), vIs (.pointer (some ⟨gx, 1, none⟩)), vIs (vi p.x.hi), vIs (.pointer (some ⟨gm, 0, none⟩)), vIs (vi m0.1), vIs (.pointer (some ⟨w.heap.size, 1, none⟩)), vIs (vi y.s.strain), vIs (vi (m0.1 + y.s.strain)), vIs (vi q.x.hi), vIs (rgV q.x), vIs (.pointer (some ⟨gy, 0, none⟩)), vIs (vi p.y.lo), vIs (.pointer (some ⟨gm, 1, none⟩)), vIs (vi m0.2), vIs (.pointer (some ⟨w.heap.size, 1, none⟩)), vIs (vi y.s.strain), vIs (vi (m0.2 - y.s.strain)), vIs (vi q.y.lo), vIs (.pointer (some ⟨gy, 1, none⟩)), vIs (vi p.y.hi), vIs (.pointer (some ⟨gm, 1, none⟩)), vIs (vi m0.2), vIs (.pointer (some ⟨w.heap.size, 1, none⟩)), vIs (vi y.s.strain), vIs (vi (m0.2 + y.s.strain)), vIs (vi q.y.hi), vIs (rgV q.y), (fun _ _ => True)] [(fun _ _ => True), (fun _ _ => True), (fun _ _ => True), (fun _ _ => True), (fun _ _ => True), (fun _ _ => True), (fun _ _ => True), (fun _ _ => True), (fun _ _ => True), (fun _ _ => True), (fun _ _ => True), (fun _ _ => True), (fun _ _ => True), (fun _ _ => True), (fun _ _ => True), (fun _ _ => True), (fun _ _ => True), vIs (.pointer (some ⟨gy, 0, none⟩)), vIs (vi p.y.lo), vIs (.pointer (some ⟨gm, 1, none⟩)), vIs (vi m0.2), vIs (.pointer (some ⟨w.heap.size, 1, none⟩)), vIs (vi y.s.strain), vIs (vi (m0.2 - y.s.strain)), vIs (vi q.y.lo), vIs (.pointer (some ⟨gy, 1, none⟩)), vIs (vi p.y.hi), vIs (.pointer (some ⟨gm, 1, none⟩)), vIs (vi m0.2), vIs (.pointer (some ⟨w.heap.size, 1, none⟩)), vIs (vi y.s.strain), vIs (vi (m0.2 + y.s.strain)), vIs (vi q.y.hi), vIs (rgV q.y), (fun _ _ => True)]) (pickB_stable ⟨vIs_st, vIs_st, vIs_st, vIs_st, vIs_st, vIs_st, vIs_st, vIs_st, vIs_st, vIs_st, vIs_st, vIs_st, vIs_st, vIs_st, vIs_st, vIs_st, vIs_st, vIs_st, vIs_st, vIs_st, vIs_st, vIs_st, vIs_st, vIs_st, vIs_st, vIs_st, vIs_st, vIs_st, vIs_st, vIs_st, vIs_st, vIs_st, vIs_st, vIs_st, (fun _ _ _ h _ => h), trivial⟩ ⟨(fun _ _ _ h _ => h), (fun _ _ _ h _ => h), (fun _ _ _ h _ => h), (fun _ _ _ h _ => h), (fun _ _ _ h _ => h), (fun _ _ _ h _ => h), (fun _ _ _ h _ => h), (fun _ _ _ h _ => h), (fun _ _ _ h _ => h), (fun _ _ _ h _ => h), (fun _ _ _ h _ => h), (fun _ _ _ h _ => h), (fun _ _ _ h _ => h), (fun _ _ _ h _ => h), (fun _ _ _ h _ => h), (fun _ _ _ h _ => h), (fun _ _ _ h _ => h), vIs_st, vIs_st, vIs_st, vIs_st, vIs_st, vIs_st, vIs_st, vIs_st, vIs_st, vIs_st, vIs_st, vIs_st, vIs_st, vIs_st, vIs_st, vIs_st, vIs_st, (fun _ _ _ h _ => h), trivial⟩) ⟨HW7.out.1.drew, HW7.out.2.1, HW7.out.2.2.1, HW7.out.2.2.2.1, HW7.out.2.2.2.2.1⟩ ?_ ?_)
          · refine ⟨?_, ?_, ?_, ?_, ?_, ?_, ?_, ?_, ?_, ?_, ?_, ?_, ?_, ?_, ?_, ?_, ?_, ?_, ?_, ?_, ?_, ?_, ?_, ?_, ?_, ?_, ?_, ?_, ?_, ?_, ?_, ?_, ?_, ?_, ?_, trivial⟩
            · intro a W hG hO hp
              have h8 := hO.slot 8 (by kernel_rfl)
              refine wp_yields (v := .pointer (some ⟨gx, 0, none⟩)) ?_ ⟨_, rfl, rfl, Below.refl _ _, hG⟩
              simp [slotOf] at h8
              simp [execOp, go_sem, h8]
            · intro a W hG hO hp
              have h37 : slotOf a 37 = .pointer (some ⟨gx, 0, none⟩) := hp.1
              have c0 := hG.2.1.at 0 (v := vi p.x.lo) rfl
              refine wp_yields (v := vi p.x.lo) ?_ ⟨_, rfl, rfl, Below.refl _ _, hG⟩
              simp [slotOf] at h37
              simp [execOp, go_sem, h37, c0]
            · intro a W hG hO hp
              have h10 := hO.slot 10 (by kernel_rfl)
              refine wp_yields (v := .pointer (some ⟨gm, 0, none⟩)) ?_ ⟨_, rfl, rfl, Below.refl _ _, hG⟩
              simp [slotOf] at h10
              simp [execOp, go_sem, h10]
            · intro a W hG hO hp
              have h39 : slotOf a 39 = .pointer (some ⟨gm, 0, none⟩) := hp.1
              have c0 := hG.2.2.2.1.at 0 (v := vi m0.1) rfl
              refine wp_yields (v := vi m0.1) ?_ ⟨_, rfl, rfl, Below.refl _ _, hG⟩
              simp [slotOf] at h39
              simp [execOp, go_sem, h39, c0]
            · intro a W hG hO hp
              have h2 := hO.slot 2 (by kernel_rfl)
              refine wp_yields (v := .pointer (some ⟨w.heap.size, 1, none⟩)) ?_ ⟨_, rfl, rfl, Below.refl _ _, hG⟩
              simp [slotOf] at h2
              simp [execOp, go_sem, h2]
            · intro a W hG hO hp
              have h41 : slotOf a 41 = .pointer (some ⟨w.heap.size, 1, none⟩) := hp.1
              have c0 := hG.2.2.2.2.at 1 (v := vi y.s.strain) rfl
              refine wp_yields (v := vi y.s.strain) ?_ ⟨_, rfl, rfl, Below.refl _ _, hG⟩
              simp [slotOf] at h41
              simp [execOp, go_sem, h41, c0]
            · intro a W hG hO hp
              have h40 : slotOf a 40 = vi m0.1 := hp.1
              have h42 : slotOf a 42 = vi y.s.strain := hp.2.1
              refine wp_yields (v := vi (m0.1 - y.s.strain)) ?_ ⟨_, rfl, rfl, Below.refl _ _, hG⟩
              simp [slotOf] at h40 h42
              simp [execOp, go_sem, h40, h42, ew1]
            · intro a W hG hO hp
              have h38 : slotOf a 38 = vi p.x.lo := hp.1
              have h43 : slotOf a 43 = vi (m0.1 - y.s.strain) := hp.2.1
              refine wp_yields (v := vi q.x.lo) ?_ ⟨_, rfl, rfl, Below.refl _ _, hG⟩
              simp [slotOf] at h38 h43
              simp [go_sem, h38, h43, eq1, mxI]
            · intro a W hG hO hp
              have h8 := hO.slot 8 (by kernel_rfl)
              refine wp_yields (v := .pointer (some ⟨gx, 1, none⟩)) ?_ ⟨_, rfl, rfl, Below.refl _ _, hG⟩
              simp [slotOf] at h8
              simp [execOp, go_sem, h8]
            · intro a W hG hO hp
              have h45 : slotOf a 45 = .pointer (some ⟨gx, 1, none⟩) := hp.1
              have c0 := hG.2.1.at 1 (v := vi p.x.hi) rfl
              refine wp_yields (v := vi p.x.hi) ?_ ⟨_, rfl, rfl, Below.refl _ _, hG⟩
              simp [slotOf] at h45
              simp [execOp, go_sem, h45, c0]
            · intro a W hG hO hp
              have h10 := hO.slot 10 (by kernel_rfl)
              refine wp_yields (v := .pointer (some ⟨gm, 0, none⟩)) ?_ ⟨_, rfl, rfl, Below.refl _ _, hG⟩
              simp [slotOf] at h10
              simp [execOp, go_sem, h10]
            · intro a W hG hO hp
              have h47 : slotOf a 47 = .pointer (some ⟨gm, 0, none⟩) := hp.1
              have c0 := hG.2.2.2.1.at 0 (v := vi m0.1) rfl
              refine wp_yields (v := vi m0.1) ?_ ⟨_, rfl, rfl, Below.refl _ _, hG⟩
              simp [slotOf] at h47
              simp [execOp, go_sem, h47, c0]
            · intro a W hG hO hp
              have h2 := hO.slot 2 (by kernel_rfl)
              refine wp_yields (v := .pointer (some ⟨w.heap.size, 1, none⟩)) ?_ ⟨_, rfl, rfl, Below.refl _ _, hG⟩
              simp [slotOf] at h2
              simp [execOp, go_sem, h2]
            · intro a W hG hO hp
              have h49 : slotOf a 49 = .pointer (some ⟨w.heap.size, 1, none⟩) := hp.1
              have c0 := hG.2.2.2.2.at 1 (v := vi y.s.strain) rfl
              refine wp_yields (v := vi y.s.strain) ?_ ⟨_, rfl, rfl, Below.refl _ _, hG⟩
              simp [slotOf] at h49
              simp [execOp, go_sem, h49, c0]
            · intro a W hG hO hp
              have h48 : slotOf a 48 = vi m0.1 := hp.1
              have h50 : slotOf a 50 = vi y.s.strain := hp.2.1
              refine wp_yields (v := vi (m0.1 + y.s.strain)) ?_ ⟨_, rfl, rfl, Below.refl _ _, hG⟩
              simp [slotOf] at h48 h50
              simp [execOp, go_sem, h48, h50, ew2]
            · intro a W hG hO hp
              have h46 : slotOf a 46 = vi p.x.hi := hp.1
              have h51 : slotOf a 51 = vi (m0.1 + y.s.strain) := hp.2.1
              refine wp_yields (v := vi q.x.hi) ?_ ⟨_, rfl, rfl, Below.refl _ _, hG⟩
              simp [slotOf] at h46 h51
              simp [go_sem, h46, h51, eq2, mnI]
            · intro a W hG hO hp
              have h44 : slotOf a 44 = vi q.x.lo := hp.1
              have h52 : slotOf a 52 = vi q.x.hi := hp.2.1
              refine wp_yields (v := rgV q.x) ?_ ⟨_, rfl, rfl, Below.refl _ _, hG⟩
              simp [slotOf] at h44 h52
              simp [execOp, go_sem, h44, h52]
            · intro b a W hG hO hp
              have h9 := hO.slot 9 (by kernel_rfl)
              refine wp_yields (v := .pointer (some ⟨gy, 0, none⟩)) ?_ ⟨_, rfl, (by cases b <;> rfl), Below.refl _ _, hG⟩
              simp [slotOf] at h9
              simp [execOp, go_sem, h9]
            · intro b a W hG hO hp
              have h54 : slotOf a 54 = .pointer (some ⟨gy, 0, none⟩) := by cases b <;> exact hp.1
              have c0 := hG.2.2.1.at 0 (v := vi p.y.lo) rfl
              refine wp_yields (v := vi p.y.lo) ?_ ⟨_, rfl, (by cases b <;> rfl), Below.refl _ _, hG⟩
              simp [slotOf] at h54
              simp [execOp, go_sem, h54, c0]
            · intro b a W hG hO hp
              have h10 := hO.slot 10 (by kernel_rfl)
              refine wp_yields (v := .pointer (some ⟨gm, 1, none⟩)) ?_ ⟨_, rfl, (by cases b <;> rfl), Below.refl _ _, hG⟩
              simp [slotOf] at h10
              simp [execOp, go_sem, h10]
            · intro b a W hG hO hp
              have h56 : slotOf a 56 = .pointer (some ⟨gm, 1, none⟩) := by cases b <;> exact hp.1
              have c0 := hG.2.2.2.1.at 1 (v := vi m0.2) rfl
              refine wp_yields (v := vi m0.2) ?_ ⟨_, rfl, (by cases b <;> rfl), Below.refl _ _, hG⟩
              simp [slotOf] at h56
              simp [execOp, go_sem, h56, c0]
            · intro b a W hG hO hp
              have h2 := hO.slot 2 (by kernel_rfl)
              refine wp_yields (v := .pointer (some ⟨w.heap.size, 1, none⟩)) ?_ ⟨_, rfl, (by cases b <;> rfl), Below.refl _ _, hG⟩
              simp [slotOf] at h2
              simp [execOp, go_sem, h2]
            · intro b a W hG hO hp
              have h58 : slotOf a 58 = .pointer (some ⟨w.heap.size, 1, none⟩) := by cases b <;> exact hp.1
              have c0 := hG.2.2.2.2.at 1 (v := vi y.s.strain) rfl
              refine wp_yields (v := vi y.s.strain) ?_ ⟨_, rfl, (by cases b <;> rfl), Below.refl _ _, hG⟩
              simp [slotOf] at h58
              simp [execOp, go_sem, h58, c0]
            · intro b a W hG hO hp
              have h57 : slotOf a 57 = vi m0.2 := by cases b <;> exact hp.1
              have h59 : slotOf a 59 = vi y.s.strain := by cases b <;> exact hp.2.1
              refine wp_yields (v := vi (m0.2 - y.s.strain)) ?_ ⟨_, rfl, (by cases b <;> rfl), Below.refl _ _, hG⟩
              simp [slotOf] at h57 h59
              simp [execOp, go_sem, h57, h59, ew3]
            · intro b a W hG hO hp
              have h55 : slotOf a 55 = vi p.y.lo := by cases b <;> exact hp.1
              have h60 : slotOf a 60 = vi (m0.2 - y.s.strain) := by cases b <;> exact hp.2.1
              refine wp_yields (v := vi q.y.lo) ?_ ⟨_, rfl, (by cases b <;> rfl), Below.refl _ _, hG⟩
              simp [slotOf] at h55 h60
              simp [go_sem, h55, h60, eq3, mxI]
            · intro b a W hG hO hp
              have h9 := hO.slot 9 (by kernel_rfl)
              refine wp_yields (v := .pointer (some ⟨gy, 1, none⟩)) ?_ ⟨_, rfl, (by cases b <;> rfl), Below.refl _ _, hG⟩
              simp [slotOf] at h9
              simp [execOp, go_sem, h9]
            · intro b a W hG hO hp
              have h62 : slotOf a 62 = .pointer (some ⟨gy, 1, none⟩) := by cases b <;> exact hp.1
              have c0 := hG.2.2.1.at 1 (v := vi p.y.hi) rfl
              refine wp_yields (v := vi p.y.hi) ?_ ⟨_, rfl, (by cases b <;> rfl), Below.refl _ _, hG⟩
              simp [slotOf] at h62
              simp [execOp, go_sem, h62, c0]
            · intro b a W hG hO hp
              have h10 := hO.slot 10 (by kernel_rfl)
              refine wp_yields (v := .pointer (some ⟨gm, 1, none⟩)) ?_ ⟨_, rfl, (by cases b <;> rfl), Below.refl _ _, hG⟩
              simp [slotOf] at h10
              simp [execOp, go_sem, h10]
            · intro b a W hG hO hp
              have h64 : slotOf a 64 = .pointer (some ⟨gm, 1, none⟩) := by cases b <;> exact hp.1
              have c0 := hG.2.2.2.1.at 1 (v := vi m0.2) rfl
              refine wp_yields (v := vi m0.2) ?_ ⟨_, rfl, (by cases b <;> rfl), Below.refl _ _, hG⟩
              simp [slotOf] at h64
              simp [execOp, go_sem, h64, c0]
            · intro b a W hG hO hp
              have h2 := hO.slot 2 (by kernel_rfl)
              refine wp_yields (v := .pointer (some ⟨w.heap.size, 1, none⟩)) ?_ ⟨_, rfl, (by cases b <;> rfl), Below.refl _ _, hG⟩
              simp [slotOf] at h2
              simp [execOp, go_sem, h2]
            · intro b a W hG hO hp
              have h66 : slotOf a 66 = .pointer (some ⟨w.heap.size, 1, none⟩) := by cases b <;> exact hp.1
              have c0 := hG.2.2.2.2.at 1 (v := vi y.s.strain) rfl
              refine wp_yields (v := vi y.s.strain) ?_ ⟨_, rfl, (by cases b <;> rfl), Below.refl _ _, hG⟩
              simp [slotOf] at h66
              simp [execOp, go_sem, h66, c0]
            · intro b a W hG hO hp
              have h65 : slotOf a 65 = vi m0.2 := by cases b <;> exact hp.1
              have h67 : slotOf a 67 = vi y.s.strain := by cases b <;> exact hp.2.1
              refine wp_yields (v := vi (m0.2 + y.s.strain)) ?_ ⟨_, rfl, (by cases b <;> rfl), Below.refl _ _, hG⟩
              simp [slotOf] at h65 h67
              simp [execOp, go_sem, h65, h67, ew4]
            · intro b a W hG hO hp
              have h63 : slotOf a 63 = vi p.y.hi := by cases b <;> exact hp.1
              have h68 : slotOf a 68 = vi (m0.2 + y.s.strain) := by cases b <;> exact hp.2.1
              refine wp_yields (v := vi q.y.hi) ?_ ⟨_, rfl, (by cases b <;> rfl), Below.refl _ _, hG⟩
              simp [slotOf] at h63 h68
              simp [go_sem, h63, h68, eq4, mnI]
            · intro b a W hG hO hp
              have h61 : slotOf a 61 = vi q.y.lo := by cases b <;> exact hp.1
              have h69 : slotOf a 69 = vi q.y.hi := by cases b <;> exact hp.2.1
              refine wp_yields (v := rgV q.y) ?_ ⟨_, rfl, (by cases b <;> rfl), Below.refl _ _, hG⟩
              simp [slotOf] at h61 h69
              simp [execOp, go_sem, h61, h69]
            · intro a W hG hO hp
              have h53 : slotOf a 53 = rgV q.x := hp.1
              have h8 := hO.slot 8 (by kernel_rfl)
              have b0 := hG.2.1.at 0 rfl
              have b1 := hG.2.1.at 1 rfl
              have f0 := hG.2.1.free 0
              have f1 := hG.2.1.free 1
              simp [slotOf] at h8 h53
              refine wp_storesE (W' := (W.setCell ⟨gx, 0, none⟩ (vi q.x.lo)).setCell ⟨gx, 1, none⟩ (vi q.x.hi)) (by simp [execOp, go_sem, h8, h53, b0, b1, f0, f1]) ⟨rfl, ⟨(hG.1.setCell (p := ⟨gx, 0, none⟩) HGX.out.1 _).setCell (p := ⟨gx, 1, none⟩) HGX.out.1 _, (hG.2.1.set 0 _).set 1 _, (hG.2.2.1.far (p := ⟨gx, 0, none⟩) (Ne.symm HNE.out.1) _).far (p := ⟨gx, 1, none⟩) (Ne.symm HNE.out.1) _, (hG.2.2.2.1.far (p := ⟨gx, 0, none⟩) (Ne.symm HNE.out.2.1) _).far (p := ⟨gx, 1, none⟩) (Ne.symm HNE.out.2.1) _, (hG.2.2.2.2.far (p := ⟨gx, 0, none⟩) (Ne.symm HNE.out.2.2) _).far (p := ⟨gx, 1, none⟩) (Ne.symm HNE.out.2.2) _⟩, ?_⟩
              intro j oj d hj hoj hd hD
              match j, hoj, hD with
              | 0, _, _ => trivial
              | 1, _, _ => trivial
              | 2, _, _ => trivial
              | 3, _, _ => trivial
              | 4, _, _ => trivial
              | 5, _, _ => trivial
              | 6, _, _ => trivial
              | 7, _, _ => trivial
              | 8, _, _ => trivial
              | 9, _, _ => trivial
              | 10, _, _ => trivial
              | 11, _, _ => trivial
              | 12, _, _ => trivial
              | 13, _, _ => trivial
              | 14, _, _ => trivial
              | 15, _, _ => trivial
              | 16, _, _ => trivial
              | 17, _, hD =>
                exact hD
              | 18, _, hD =>
                exact hD
              | 19, _, hD =>
                exact hD
              | 20, _, hD =>
                exact hD
              | 21, _, hD =>
                exact hD
              | 22, _, hD =>
                exact hD
              | 23, _, hD =>
                exact hD
              | 24, _, hD =>
                exact hD
              | 25, _, hD =>
                exact hD
              | 26, _, hD =>
                exact hD
              | 27, _, hD =>
                exact hD
              | 28, _, hD =>
                exact hD
              | 29, _, hD =>
                exact hD
              | 30, _, hD =>
                exact hD
              | 31, _, hD =>
                exact hD
              | 32, _, hD =>
                exact hD
              | 33, _, hD =>
                exact hD
              | 34, _, _ => trivial
              | (_ + 35), _, _ => omega
          · intro w8 hG
            rintro _ - _ - _ - _ - _ - _ - _ - _ - _ - _ - _ - _ - _ - _ - _ - _ - _ - _ rfl _ rfl _ rfl _ rfl _ rfl _ rfl _ rfl _ rfl _ rfl _ rfl _ rfl _ rfl _ rfl _ rfl _ rfl _ rfl _ rfl
            change wpList _ _ _ _ _ _
            simp only [Act.put, List.setIfInBounds_toArray, List.set_cons_zero, List.set_cons_succ, List.drop_succ_cons, List.drop_zero]
            have a2 := hG.2.2.1.at 0 rfl
            have a3 := hG.2.2.1.at 1 rfl
            have f2 := hG.2.2.1.free 0
            have f3 := hG.2.2.1.free 1
            have HW8 := Lib.hid hG
            clear hG HW7 eq1 eq2 eq3 eq4 u0 u1 u2 u3 k0 k1 x1 ew1 ew2 ew3 ew4 hgxw hgxm
            go_upto_region 9 with fail
            refine genQ (fun X => newer wr X ∧ Whole X gx 71 #[vi q.x.lo, vi q.x.hi] ∧ Whole X gy 71 #[vi q.y.lo, vi q.y.hi]) ⟨(HW8.out.1.setCell (p := ⟨gy, 0, none⟩) HGX.out.2 _).setCell (p := ⟨gy, 1, none⟩) HGX.out.2 _, (HW8.out.2.1.far (p := ⟨gy, 0, none⟩) HNE.out.1 _).far (p := ⟨gy, 1, none⟩) HNE.out.1 _, (HW8.out.2.2.1.set 0 _).set 1 _⟩ ?_
            clear a2 a3 f2 f3 HW8
            rintro w9 ⟨hn9, hx9, hy9⟩
            have HQQ := HQQ0
            have HOW := Lib.hid (And.intro (own_below HJ.out.1 hn9) (newer_trans HJ.out.2 hn9))
            have HXN := Lib.hid (And.intro (show some gx ≠ (Value.slice A i c).ownBlock from (own_ne (own_below HJ.out.1 hn9) hx9 (by decide)).symm) (show some gy ≠ (Value.slice A i c).ownBlock from (own_ne (own_below HJ.out.1 hn9) hy9 (by decide)).symm))
            have u0 := hx9.at 0 (v := vi q.x.lo) rfl
            have u1 := hx9.at 1 (v := vi q.x.hi) rfl
            have u2 := hy9.at 0 (v := vi q.y.lo) rfl
            have u3 := hy9.at 1 (v := vi q.y.hi) rfl
            have HN9 := Lib.hid hn9
            have HLT := Lib.hid (And.intro hx9.lt hy9.lt)
            clear hn9 hx9 hy9 HQQ0
            by_cases hc : q.x.hi < q.x.lo
            case pos =>
              have HNO := Lib.hid (show truthK y.s ws y.s.spots.length = none from truthK_stop (by have := HIN.out; omega) HT.out HPP.out HQQ.out (.inl hc))
              go_wp2_with fail
              exact bodyPost_ret (v := .tuple #[.slice none 0 0, .bool false]) (by simp [results, Try.results47, go_sem]) rfl (show TruthR y ws w _ _ from .inr ⟨HNO.out, rfl, newer_trans HJ.out.2 HN9.out⟩)
            case neg =>
              by_cases hd : q.y.hi < q.y.lo
              case pos =>
                have HNO := Lib.hid (show truthK y.s ws y.s.spots.length = none from truthK_stop (by have := HIN.out; omega) HT.out HPP.out HQQ.out (.inr hd))
                go_wp2_with fail
                exact bodyPost_ret (v := .tuple #[.slice none 0 0, .bool false]) (by simp [results, Try.results47, go_sem]) rfl (show TruthR y ws w _ _ from .inr ⟨HNO.out, rfl, newer_trans HJ.out.2 HN9.out⟩)
              case neg =>
                have hqb := ranges_bd HSD.out HPP.out HFI.out HIN.out HQQ.out
                obtain ⟨m, hm⟩ : ∃ m : Mv, m = (pickN q.x.lo q.x.hi ws (2 * i), pickN q.y.lo q.y.hi ws (2 * i + 1)) := ⟨_, rfl⟩
                have HGO := Lib.hid (show truthK y.s ws (i + 1) = some (f ++ [m]) from by rw [hm]; exact truthK_go HT.out HPP.out HQQ.out hc hd)
                have ei2 : IntKind.i64.wrap (2 * (i : Int)) = 2 * i := IntWalk.i64_in _ (by omega)
                have ei3 : IntKind.i64.wrap (2 * (i : Int) + 1) = 2 * i + 1 := IntWalk.i64_in _ (by omega)
                have HP1 : Hid (∀ W, newer w W → Calls Try.prog 79 #[vi q.x.lo, vi q.x.hi, .slice B ws.length bc, vi (2 * i)] W fun e w' => e = .returned (vi m.1) ∧ newer W w') := Lib.hid (fun W hW => by
                  have h := pick_any q.x.lo q.x.hi ws B bc (2 * i) W (by omega) HWL.out (by omega) ((HR.out.below hW).more hW.size)
                  rw [show ((2 * i : Nat) : Int) = 2 * (i : Int) by omega] at h
                  rw [hm]
                  exact h)
                have HP2 : Hid (∀ W, newer w W → Calls Try.prog 79 #[vi q.y.lo, vi q.y.hi, .slice B ws.length bc, vi (2 * i + 1)] W fun e w' => e = .returned (vi m.2) ∧ newer W w') := Lib.hid (fun W hW => by
                  have h := pick_any q.y.lo q.y.hi ws B bc (2 * i + 1) W (by omega) HWL.out (by omega) ((HR.out.below hW).more hW.size)
                  rw [show ((2 * i + 1 : Nat) : Int) = 2 * (i : Int) + 1 by omega] at h
                  rw [hm]
                  exact h)
                have HFEW := Lib.hid (show i < 1000 by omega)
                have HSZ := Lib.hid (newer_trans HB1N.out HN9.out).size
                have HNW := Lib.hid (own_lt HOW.out.1)
                clear hqb hm
                go_upto_region 11 with fail
                refine wp_words (by kernel_rfl) (region_tale 21 (by kernel_rfl) (by kernel_rfl) 20 (fun W => w9.grownBy W (Value.slice A i c).ownBlock) (fun W => W.ownsRow (w1.heap.size) 47 2 (.slice A i c) i (f.flatMap mvL) ∧ newer w9 W) (relAt 20 (fun W W' => W.grownBy W' (Value.slice A i c).ownBlock)) (pickD [vIs (.slice A i c), vIs (.pointer (some ⟨gx, 0, none⟩)), vIs (vi q.x.lo), vIs (.pointer (some ⟨gx, 1, none⟩)), vIs (vi q.x.hi), vIs (.slice B ws.length bc), vIs (vi i), vIs (vi (2 * i)), vIs (vi m.1), vIs (.pointer (some ⟨gy, 0, none⟩)), vIs (vi q.y.lo), vIs (.pointer (some ⟨gy, 1, none⟩)), vIs (vi q.y.hi), vIs (.slice B ws.length bc), vIs (vi i), vIs (vi (2 * i)), vIs (vi (2 * i + 1)), vIs (vi m.2), vIs (mvV m), vOne w9.heap.size 47 #[vi m.1, vi m.2], vOwnV w1.heap.size 47 2 (i + 1) (f.flatMap mvL ++ [m].flatMap mvL)]) (allBut_ok (fun _ _ h => grown_of_newer h _) _ ⟨vIs_st, vIs_st, vIs_st, vIs_st, vIs_st, vIs_st, vIs_st, vIs_st, vIs_st, vIs_st, vIs_st, vIs_st, vIs_st, vIs_st, vIs_st, vIs_st, vIs_st, vIs_st, vIs_st, vOne_grown HNW.out, vOwnV_st, trivial⟩) (by decide) (grown_drew (grown_refl _ _)) ⟨HOW.out.1, (Below.refl _ _).drew⟩ ?_ ?_)
                · refine ⟨?_, ?_, ?_, ?_, ?_, ?_, ?_, ?_, ?_, ?_, ?_, ?_, ?_, ?_, ?_, ?_, ?_, ?_, ?_, ?_, ?_, trivial⟩
                  · intro a W hG hG1 hO hp
                    have h6 := hO.slot 6 (by kernel_rfl)
                    refine wp_yields (v := .slice A i c) ?_ ⟨_, rfl, rfl, newer_refl _, hG, fun _ h => h⟩
                    simp [slotOf] at h6
                    simp [execOp, go_sem, h6]
                  · intro a W hG hG1 hO hp
                    have h8 := hO.slot 8 (by kernel_rfl)
                    refine wp_yields (v := .pointer (some ⟨gx, 0, none⟩)) ?_ ⟨_, rfl, rfl, newer_refl _, hG, fun _ h => h⟩
                    simp [slotOf] at h8
                    simp [execOp, go_sem, h8]
                  · intro a W hG hG1 hO hp
                    have h84 : slotOf a 84 = .pointer (some ⟨gx, 0, none⟩) := hp.1
                    have c0 := hG.cell u0 HXN.out.1
                    refine wp_yields (v := vi q.x.lo) ?_ ⟨_, rfl, rfl, newer_refl _, hG, fun _ h => h⟩
                    simp [slotOf] at h84
                    simp [execOp, go_sem, h84, c0]
                  · intro a W hG hG1 hO hp
                    have h8 := hO.slot 8 (by kernel_rfl)
                    refine wp_yields (v := .pointer (some ⟨gx, 1, none⟩)) ?_ ⟨_, rfl, rfl, newer_refl _, hG, fun _ h => h⟩
                    simp [slotOf] at h8
                    simp [execOp, go_sem, h8]
                  · intro a W hG hG1 hO hp
                    have h86 : slotOf a 86 = .pointer (some ⟨gx, 1, none⟩) := hp.1
                    have c0 := hG.cell u1 HXN.out.1
                    refine wp_yields (v := vi q.x.hi) ?_ ⟨_, rfl, rfl, newer_refl _, hG, fun _ h => h⟩
                    simp [slotOf] at h86
                    simp [execOp, go_sem, h86, c0]
                  · intro a W hG hG1 hO hp
                    have h1 := hO.slot 1 (by kernel_rfl)
                    refine wp_yields (v := .slice B ws.length bc) ?_ ⟨_, rfl, rfl, newer_refl _, hG, fun _ h => h⟩
                    simp [slotOf] at h1
                    simp [execOp, go_sem, h1]
                  · intro a W hG hG1 hO hp
                    have h7 := hO.slot 7 (by kernel_rfl)
                    refine wp_yields (v := vi i) ?_ ⟨_, rfl, rfl, newer_refl _, hG, fun _ h => h⟩
                    simp [slotOf] at h7
                    simp [execOp, go_sem, h7]
                  · intro a W hG hG1 hO hp
                    have h89 : slotOf a 89 = vi i := hp.1
                    refine wp_yields (v := vi (2 * i)) ?_ ⟨_, rfl, rfl, newer_refl _, hG, fun _ h => h⟩
                    simp [slotOf] at h89
                    simp [execOp, go_sem, h89, ei2]
                  · intro a W hG hG1 hO hp
                    have h85 : slotOf a 85 = vi q.x.lo := hp.1
                    have h87 : slotOf a 87 = vi q.x.hi := hp.2.1
                    have h88 : slotOf a 88 = .slice B ws.length bc := hp.2.2.1
                    have h90 : slotOf a 90 = vi (2 * i) := hp.2.2.2.1
                    refine wp_enters (f := 79) (args := #[vi q.x.lo, vi q.x.hi, .slice B ws.length bc, vi (2 * i)]) ?_ ((HP1.out W (below_row HOW.out.2 HOW.out.1 hG HB1.out.1.size)).mono ?_)
                    · simp [slotOf] at h85 h87 h88 h90
                      simp [go_sem, h85, h87, h88, h90]
                    · rintro e w' ⟨rfl, hb⟩
                      exact ⟨_, rfl, _, rfl, rfl, hb, grown_below hG hb, fun _ h => ⟨own_below h.1 hb, newer_trans h.2 hb⟩⟩
                  · intro a W hG hG1 hO hp
                    have h9 := hO.slot 9 (by kernel_rfl)
                    refine wp_yields (v := .pointer (some ⟨gy, 0, none⟩)) ?_ ⟨_, rfl, rfl, newer_refl _, hG, fun _ h => h⟩
                    simp [slotOf] at h9
                    simp [execOp, go_sem, h9]
                  · intro a W hG hG1 hO hp
                    have h92 : slotOf a 92 = .pointer (some ⟨gy, 0, none⟩) := hp.1
                    have c0 := hG.cell u2 HXN.out.2
                    refine wp_yields (v := vi q.y.lo) ?_ ⟨_, rfl, rfl, newer_refl _, hG, fun _ h => h⟩
                    simp [slotOf] at h92
                    simp [execOp, go_sem, h92, c0]
                  · intro a W hG hG1 hO hp
                    have h9 := hO.slot 9 (by kernel_rfl)
                    refine wp_yields (v := .pointer (some ⟨gy, 1, none⟩)) ?_ ⟨_, rfl, rfl, newer_refl _, hG, fun _ h => h⟩
                    simp [slotOf] at h9
                    simp [execOp, go_sem, h9]
                  · intro a W hG hG1 hO hp
                    have h94 : slotOf a 94 = .pointer (some ⟨gy, 1, none⟩) := hp.1
                    have c0 := hG.cell u3 HXN.out.2
                    refine wp_yields (v := vi q.y.hi) ?_ ⟨_, rfl, rfl, newer_refl _, hG, fun _ h => h⟩
                    simp [slotOf] at h94
                    simp [execOp, go_sem, h94, c0]
                  · intro a W hG hG1 hO hp
                    have h1 := hO.slot 1 (by kernel_rfl)
                    refine wp_yields (v := .slice B ws.length bc) ?_ ⟨_, rfl, rfl, newer_refl _, hG, fun _ h => h⟩
                    simp [slotOf] at h1
                    simp [execOp, go_sem, h1]
                  · intro a W hG hG1 hO hp
                    have h7 := hO.slot 7 (by kernel_rfl)
                    refine wp_yields (v := vi i) ?_ ⟨_, rfl, rfl, newer_refl _, hG, fun _ h => h⟩
                    simp [slotOf] at h7
                    simp [execOp, go_sem, h7]
                  · intro a W hG hG1 hO hp
                    have h97 : slotOf a 97 = vi i := hp.1
                    refine wp_yields (v := vi (2 * i)) ?_ ⟨_, rfl, rfl, newer_refl _, hG, fun _ h => h⟩
                    simp [slotOf] at h97
                    simp [execOp, go_sem, h97, ei2]
                  · intro a W hG hG1 hO hp
                    have h98 : slotOf a 98 = vi (2 * i) := hp.1
                    refine wp_yields (v := vi (2 * i + 1)) ?_ ⟨_, rfl, rfl, newer_refl _, hG, fun _ h => h⟩
                    simp [slotOf] at h98
                    simp [execOp, go_sem, h98, ei3]
                  · intro a W hG hG1 hO hp
                    have h93 : slotOf a 93 = vi q.y.lo := hp.1
                    have h95 : slotOf a 95 = vi q.y.hi := hp.2.1
                    have h96 : slotOf a 96 = .slice B ws.length bc := hp.2.2.1
                    have h99 : slotOf a 99 = vi (2 * i + 1) := hp.2.2.2.1
                    refine wp_enters (f := 79) (args := #[vi q.y.lo, vi q.y.hi, .slice B ws.length bc, vi (2 * i + 1)]) ?_ ((HP2.out W (below_row HOW.out.2 HOW.out.1 hG HB1.out.1.size)).mono ?_)
                    · simp [slotOf] at h93 h95 h96 h99
                      simp [go_sem, h93, h95, h96, h99]
                    · rintro e w' ⟨rfl, hb⟩
                      exact ⟨_, rfl, _, rfl, rfl, hb, grown_below hG hb, fun _ h => ⟨own_below h.1 hb, newer_trans h.2 hb⟩⟩
                  · intro a W hG hG1 hO hp
                    have h91 : slotOf a 91 = vi m.1 := hp.1
                    have h100 : slotOf a 100 = vi m.2 := hp.2.1
                    refine wp_yields (v := mvV m) ?_ ⟨_, rfl, rfl, newer_refl _, hG, fun _ h => h⟩
                    simp [slotOf] at h91 h100
                    simp [execOp, go_sem, h91, h100]
                  · intro a W hG hG1 hO hp
                    have h101 : slotOf a 101 = mvV m := hp.1
                    refine wp_makes (v := .slice (some ⟨W.heap.size, 0, none⟩) 1 1) (W' := W.alloc (.cells #[vi m.1, vi m.2] 47)) ?_ ⟨_, rfl, ⟨_, rfl, hG.size, Whole.made _ _ _⟩, newer_allocH _ _, grown_alloc hG _, fun _ h => ⟨own_below h.1 (newer_allocH _ _), newer_trans h.2 (newer_allocH _ _)⟩⟩
                    simp [slotOf] at h101
                    simp [execOp, go_sem, h101]
                  · intro a W hG hG1 hO hp
                    have h83 : slotOf a 83 = .slice A i c := hp.1
                    have h102 := hp.2.1
                    obtain ⟨nb, h102, hnb, hW⟩ := h102
                    obtain ⟨ho, hnw⟩ := hG1 rfl
                    obtain ⟨hi0, hz0, hz1, hz2⟩ := HI.out
                    refine wp_append_all (enc := mvL) (size := 2) (w1.heap.size) (.tmp 83) (.tmp 102) 34 47 i0 (.agg #[vi 0, vi 0]) 16 Try.underlying34 hi0 hz0 hz1 hz2 rfl (by omega) (fun _ => rfl) mvL_one rfl A i c (f.flatMap mvL) ((eval_slot a 83).trans h83) ho [m] (some ⟨nb, 0, none⟩) 1 ((eval_slot a 102).trans h102) (row_of_whole (enc := mvL) (s := 2) (fun _ => rfl) hW rfl) (by have := HFEW.out; unfold maxLen; simp only [List.length_singleton]; omega) (by have := HFEW.out; simp only [List.length_singleton]; omega) (Nat.le_trans HSZ.out hG.size) ?_
                    intro B c' w1 hown hgr hat
                    exact ⟨_, rfl, ⟨B, c', rfl, hown⟩, hgr, grown_trans' hG hgr, fun e => absurd rfl e⟩
                · intro w10 hG
                  rintro _ rfl _ rfl _ rfl _ rfl _ rfl _ rfl _ rfl _ rfl _ rfl _ rfl _ rfl _ rfl _ rfl _ rfl _ rfl _ rfl _ rfl _ rfl _ rfl _ hv102 _ ⟨B2, c2, rfl, hown⟩
                  change wpList _ _ _ _ _ _
                  simp only [Act.put, List.setIfInBounds_toArray, List.set_cons_zero, List.set_cons_succ, List.drop_succ_cons, List.drop_zero]
                  have HE := Lib.hid (And.intro hown trivial)
                  have HGR := Lib.hid hG
                  clear hG hown u0 u1 u2 u3 hv102
                  go_wp2_with fail
                  refine ⟨⟨i + 1, B2, c2, f ++ [m], by omega, rfl, rfl, HGO.out, by have h := HE.out.1; rw [← List.flatMap_append] at h; exact h, below_row (newer_trans HB1N.out HN9.out) HOW.out.1 HGR.out (Nat.le_refl _), fun g o h => by injection h with h; injection h with h; injection h with h; rw [← h]; exact Nat.lt_of_lt_of_le HLT.out.1 HGR.out.size, fun g o h => by injection h with h; injection h with h; injection h with h; rw [← h]; exact Nat.lt_of_lt_of_le HLT.out.2 HGR.out.size⟩, ?_⟩
                  simp [intOf]
                  omega

end Go.Proofs.Ytpmafnifgegfbaa
