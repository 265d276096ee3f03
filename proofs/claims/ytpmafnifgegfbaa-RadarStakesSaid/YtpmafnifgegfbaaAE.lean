/- Does a field agree, by the reference. -/
import Derived.Test.YtpmafnifgegfbaaAD
import Derived.Test.YtpmafnifgegfbaaAC0
namespace Go.Proofs.Ytpmafnifgegfbaa
open Go.RowKit Go.Shelf Go.Deep

def vLen (n : Nat) (v : Value) (_ : World) : Prop := ∃ B d, v = .slice B n d
theorem vLen_st {n : Nat} : ∀ v W W', vLen n v W → newer W W' → vLen n v W' := fun _ _ _ h _ => h
/-- Turns of the first numbers that agree. -/
def kK (f : Int → Bool) (i : Nat) : List Int := ((List.range i).map fun q : Nat => (q : Int) - 1500).filter f
theorem kK_yes {f : Int → Bool} {i : Nat} (h : f ((i : Int) - 1500) = true) : kK f (i + 1) = kK f i ++ [(i : Int) - 1500] := by
 unfold kK
 rw [List.range_succ, List.map_append, List.filter_append, List.map_singleton, List.filter_cons_of_pos h, List.filter_nil]
theorem kK_no {f : Int → Bool} {i : Nat} (h : f ((i : Int) - 1500) = false) : kK f (i + 1) = kK f i := by
 unfold kK
 rw [List.range_succ, List.map_append, List.filter_append, List.map_singleton, List.filter_cons_of_neg (by rw [h]; decide), List.filter_nil, List.append_nil]
theorem kK_all (f : Int → Bool) : kK f 3001 = kAll.filter f := rfl
theorem kK_few (f : Int → Bool) (i : Nat) : (kK f i).length ≤ i := by
 have h := List.length_filter_le f ((List.range i).map fun q : Nat => (q : Int) - 1500)
 rw [List.length_map, List.length_range] at h
 exact h
set_option maxRecDepth 100000 in
set_option maxHeartbeats 2000000 in
theorem ways_any (y : Sm) (j : Nat) (t : Tl) (m : Mv) (w : World) (hok : SmOk y w) (hs : SdOk y.s) (ht : y.s.tools[j]? = some t) (h1 : -30 ≤ m.1 ∧ m.1 ≤ 30) (h2 : -30 ≤ m.2 ∧ m.2 ≤ 30) :
  Calls Try.prog 78 #[smV y, vi j, mvV m] w fun e w' => ∃ B d, e = .returned (.slice B (waysN y.s j t m).length d) ∧ w'.ownsRow w.heap.size 3 1 (.slice B (waysN y.s j t m).length d) (waysN y.s j t m).length ((waysN y.s j t m).map vi) ∧ newer w w' := by
 have hnw := newer_trans (newer_allocH w (.cells (smC y) 26)) (newer_allocH (w.alloc (.cells (smC y) 26)) (.cells (mvC m) 47))
 have hbx := (Whole.made w 26 (smC y)).alloc (.cells (mvC m) 47)
 have hmb := Whole.made (w.alloc (.cells (smC y) 26)) 47 (mvC m)
 rw [World.size_alloc] at hmb
 have hjt := (List.getElem?_eq_some_iff.1 ht).1
 have hnx := hok.next hnw
 obtain ⟨bt, ot, et, hbt, t0, t1, t2, t3, t4, t5, t6⟩ := row7 hnx.tl ht
 have x0 := hbx.at 0 (v := .slice y.sa y.s.spots.length y.sc) rfl
 have x1 := hbx.at 1 (v := vi y.s.strain) rfl
 have x2 := hbx.at 2 (v := .slice y.ta y.s.tools.length y.tc) rfl
 have x3 := hbx.at 3 (v := vi y.s.day) rfl
 have x4 := hbx.at 4 (v := .slice y.ra y.s.reads.length y.rc) rfl
 have m0 := hmb.at 0 (v := vi m.1) rfl
 have m1 := hmb.at 1 (v := vi m.2) rfl
 have hn8 := hs.few
 have hjl : (j : Int) < y.s.tools.length := by omega
 have H0 := Lib.hid (And.intro hnw (And.intro hbx (And.intro hmb hnx)))
 have HBY := Lib.hid (fun k W (hW : SmOk y W) (hk : -100000 ≤ k ∧ k ≤ 100000) => refBy_any y j t m k W hW hs ht h1 h2 hk)
 obtain ⟨L, hL⟩ : ∃ q, q = waysN y.s j t m := ⟨_, rfl⟩
 rw [← hL]
 have HL := Lib.hid hL
 have hsm : smV y = .agg #[.slice y.sa y.s.spots.length y.sc, vi y.s.strain, .slice (some ⟨bt, ot, none⟩) y.s.tools.length y.tc, vi y.s.day, .slice y.ra y.s.reads.length y.rc] := by rw [← et]
 rw [hsm] at HBY
 rw [et] at x2
 by_cases hT : t.turn = 0
 case pos =>
  have hv : decide (amt (sightN t m - readAt y.s j - t.turn * 0) ≤ offN t y.s.day) = agreeN t y.s.day (readAt y.s j) m none := by
   unfold agreeN
   rw [if_pos hT, Int.mul_zero, Int.sub_zero]
  have HB := Lib.hid (HBY.out 0 _ H0.out.2.2.2 (by decide))
  rw [hv] at HB
  rw [hT] at t3
  obtain ⟨ag, hag⟩ : ∃ q, q = agreeN t y.s.day (readAt y.s j) m none := ⟨_, rfl⟩
  rw [← hag] at HB
  have HAG := Lib.hid (show L = if ag = true then [0] else [] by rw [HL.out, waysN, if_pos hT, ← hag])
  clear hnw hbx hmb hnx hok hs ht h1 h2 hL et hbt hT hv hag t0 t1 t2 t4 t5 t6 hsm HBY
  go_enter Try.func78, Try.ntmps78
  go_wp2_with fail
  refine (HB.out).mono ?_
  rintro e w' ⟨rfl, hb⟩
  have HN := Lib.hid (newer_trans H0.out.1 hb)
  clear hb x0 x1 x2 x3 x4 m0 m1 t3
  cases ag with
  | true =>
   have HLE := Lib.hid (show L = [0] by rw [HAG.out]; rfl)
   go_wp2_with fail
   go_ret
   have h1 := newer_allocH w' (.cells #[vi 0] 3)
   refine ⟨some ⟨w'.heap.size, 0, none⟩, 1, by rw [HLE.out]; rfl, ?_, newer_trans HN.out h1⟩
   rw [HLE.out]
   exact own_of_whole (Whole.made w' 3 #[vi 0]) HN.out.size rfl (by decide)
  | false =>
   have HLE := Lib.hid (show L = [] by rw [HAG.out]; rfl)
   go_wp2_with fail
   go_ret
   refine ⟨none, 0, by rw [HLE.out]; rfl, ?_, HN.out⟩
   rw [HLE.out]
   exact ⟨rfl, .inl ⟨rfl, rfl⟩⟩
 case neg =>
  have hT2 : ¬ (t.turn == 0) = true := by simpa using hT
  have HLE := Lib.hid (show L = kK (fun k => agreeN t y.s.day (readAt y.s j) m (some k)) 3001 by rw [HL.out, waysN, if_neg hT, kK_all])
  have HAV := Lib.hid (show ∀ k, decide (amt (sightN t m - readAt y.s j - t.turn * k) ≤ offN t y.s.day) = agreeN t y.s.day (readAt y.s j) m (some k) from fun k => by unfold agreeN; rw [if_neg hT])
  obtain ⟨f, hf⟩ : ∃ f : Int → Bool, f = fun k => agreeN t y.s.day (readAt y.s j) m (some k) := ⟨_, rfl⟩
  have HFF := Lib.hid hf
  rw [← hf] at HLE
  have HOK := Lib.hid hok
  obtain ⟨i0, hi0, hz0, hz1, hz2⟩ := info_parts info_int
  have HI := Lib.hid (And.intro hi0 (And.intro hz0 (And.intro hz1 hz2)))
  have HSM := Lib.hid hsm
  have HET := Lib.hid et
  clear hnw hbx hmb hnx hok hs ht h1 h2 hL et hbt hf t0 t1 t2 t4 t5 t6 hsm hi0 hz0 hz1 hz2
  go_enter Try.func78, Try.ntmps78
  go_wp2_with fail
  clear x0 x1 x2 x3 x4 m0 m1 t3
  go_loopw [7, 8] (fun s7 s8 wr => ∃ (i : Nat) (B : Option Addr) (d : Nat), i ≤ 3001 ∧ s8 = vi ((i : Int) - 1500) ∧ s7 = .slice B (kK f i).length d ∧ wr.ownsRow w.heap.size 3 1 (.slice B (kK f i).length d) (kK f i).length ((kK f i).map vi) ∧ newer w wr ∧ Whole wr w.heap.size 26 (smC y) ∧ Whole wr (w.heap.size + 1) 47 (mvC m)) (fun _ s8 _ => (1501 - intOf s8).toNat)
  case atStart => exact ⟨0, none, 0, Nat.zero_le _, rfl, rfl, ⟨rfl, .inl ⟨rfl, rfl⟩⟩, H0.out.1, H0.out.2.1, H0.out.2.2.1⟩
  case round =>
   obtain ⟨i, B, d, hi, rfl, rfl, hown, hnw, hxb, hmb⟩ := hrel
   have HJ := Lib.hid (And.intro hown (And.intro hnw (And.intro hxb hmb)))
   have hkf := kK_few f i
   by_cases hlt : i < 3001
   case neg =>
    obtain rfl : i = 3001 := by omega
    clear hown hnw hxb hmb
    go_wp2_with fail
    go_ret
    exact ⟨B, d, by rw [HLE.out]; rfl, by rw [HLE.out]; exact HJ.out.1, HJ.out.2.1⟩
   case pos =>
    obtain ⟨q, hq⟩ : ∃ q : Int, q = (i : Int) - 1500 := ⟨_, rfl⟩
    have HQ := Lib.hid hq
    have HQB := Lib.hid (show -1500 ≤ q ∧ q ≤ 1500 by omega)
    have hqb := HQB.out
    have hq2 : (i : Int) + 1 - 1500 = q + 1 := by omega
    have HQ2 := Lib.hid hq2
    rw [← hq]
    have x0 := hxb.at 0 (v := .slice y.sa y.s.spots.length y.sc) rfl
    have x1 := hxb.at 1 (v := vi y.s.strain) rfl
    have x2 := hxb.at 2 (v := .slice y.ta y.s.tools.length y.tc) rfl
    have x3 := hxb.at 3 (v := vi y.s.day) rfl
    have x4 := hxb.at 4 (v := .slice y.ra y.s.reads.length y.rc) rfl
    rw [HET.out] at x2
    have m0 := hmb.at 0 (v := vi m.1) rfl
    have m1 := hmb.at 1 (v := vi m.2) rfl
    have HB := Lib.hid (HBY.out q wr (HOK.out.next hnw) (by omega))
    rw [HAV.out] at HB
    obtain ⟨ag, hag⟩ : ∃ q', q' = agreeN t y.s.day (readAt y.s j) m (some q) := ⟨_, rfl⟩
    rw [← hag] at HB
    have HAG := Lib.hid (show f ((i : Int) - 1500) = ag by rw [HFF.out, hag, ← hq])
    have HFW := Lib.hid (And.intro hkf hlt)
    clear hown hnw hxb hmb hq hq2 hag hkf
    go_wp2_with fail
    refine (HB.out).mono ?_
    rintro e w1 ⟨rfl, hb⟩
    have HJ1 := Lib.hid (show w1.ownsRow w.heap.size 3 1 (.slice B (kK f i).length d) (kK f i).length ((kK f i).map vi) ∧ newer w w1 ∧ Whole w1 w.heap.size 26 (smC y) ∧ Whole w1 (w.heap.size + 1) 47 (mvC m) from ⟨own_below HJ.out.1 hb, newer_trans HJ.out.2.1 hb, HJ.out.2.2.1.below hb HJ.out.2.2.1.lt, HJ.out.2.2.2.below hb HJ.out.2.2.2.lt⟩)
    clear hb x0 x1 x2 x3 x4 m0 m1 HB
    cases ag with
    | false =>
     have HNO := Lib.hid (kK_no HAG.out)
     go_wp2_with fail
     go_roundw
     case rel => exact ⟨i + 1, B, d, by omega, by rw [show ((i + 1 : Nat) : Int) - 1500 = q + 1 from HQ2.out], by rw [HNO.out], by rw [HNO.out]; exact HJ1.out.1, HJ1.out.2.1, HJ1.out.2.2.1, HJ1.out.2.2.2⟩
     case measure => simp [intOf]; omega
    | true =>
     have HYE := Lib.hid (kK_yes HAG.out)
     have hn1 := newer_allocH w1 (.cells #[vi q] 3)
     have HO := Lib.hid (own_below HJ1.out.1 hn1)
     have HJ3 := Lib.hid (show (newer w (w1.alloc (.cells #[vi q] 3)) ∧ Whole (w1.alloc (.cells #[vi q] 3)) w.heap.size 26 (smC y)) ∧ newer w (w1.alloc (.cells #[vi q] 3)) ∧ Whole (w1.alloc (.cells #[vi q] 3)) (w.heap.size + 1) 47 (mvC m) from ⟨⟨newer_trans HJ1.out.2.1 hn1, HJ1.out.2.2.1.below hn1 HJ1.out.2.2.1.lt⟩, newer_trans HJ1.out.2.1 hn1, HJ1.out.2.2.2.below hn1 HJ1.out.2.2.2.lt⟩)
     have HCW := Lib.hid ((Whole.made w1 3 #[vi q]).at 0 (v := vi q) rfl)
     clear hn1
     go_wp2_with (at_builtin; go_loud ((refine wpList_plain rfl fun _ hK => wp_append_one (.tmp 30) (.tmp 32) 24 rfl w.heap.size 3 i0 (.int .i64 0) 8 Try.underlying24 HI.out.1 HI.out.2.1 HI.out.2.2.1 HI.out.2.2.2 rfl B (kK f i).length d ((kK f i).map vi) rfl HO.out ⟨w1.heap.size, 0, none⟩ 1 (vi q) rfl HCW.out rfl (by have := HFW.out; unfold maxLen; omega) (by have := HFW.out; omega) HJ3.out.1.1.size fun g2 c2 w5 hown hwh => hK _ _ ?_); have HE := Lib.hid (And.intro hown (And.intro (own_app HJ3.out.1 (by decide) HO.out hwh) (own_app HJ3.out.2 (by decide) HO.out hwh))); clear hown hwh))
     go_roundw
     case rel =>
      refine ⟨i + 1, some ⟨g2, 0, none⟩, c2, by omega, by rw [show ((i + 1 : Nat) : Int) - 1500 = q + 1 from HQ2.out], by rw [HYE.out, List.length_append]; rfl, ?_, HE.out.2.1.1, HE.out.2.1.2, HE.out.2.2.2⟩
      have h1 := HE.out.1
      rw [HYE.out, List.length_append, List.map_append, ← HQ.out]
      exact h1
     case measure => simp [intOf]; omega
theorem isField_is {s : Sd} {f : List Mv} : isFieldB s f = (decide (f.length = s.spots.length) && (List.range f.length).all (okF s f)) := by
 unfold isFieldB
 congr 1
 rw [Bool.eq_iff_iff, List.all_eq_true, List.all_eq_true]
 have key : ∀ i, i ∈ List.range f.length → ((match s.spots[i]?, f[i]? with
   | some p, some m => decide (m ∈ movesL p) && (decide (i = 0) || nearB s.strain (f.getD (i - 1) (0, 0)) m)
   | _, _ => false) = okF s f i) := fun i _ => by
  unfold okF
  cases s.spots[i]? with
  | none => rfl
  | some p =>
   cases f[i]? with
   | none => rfl
   | some m =>
    simp only
    congr 1
    rw [Bool.eq_iff_iff, decide_eq_true_eq, mem_moves]
    simp [inB]
 exact ⟨fun h i hi => (key i hi).symm.trans (h i hi), fun h i hi => (key i hi).trans (h i hi)⟩
set_option maxRecDepth 100000 in
set_option maxHeartbeats 4000000 in
theorem isField_any (y : Sm) (f : List Mv) (fa : Option Addr) (fc : Nat) (w : World) (hok : SmOk y w) (hs : SdOk y.s) (hf : Row mvL 2 w w.heap.size fa f) (hfl : f.length ≤ 1000) :
  Calls Try.prog 77 #[smV y, .slice fa f.length fc] w fun e w' => e = .returned (.bool (isFieldB y.s f)) ∧ newer w w' := by
 have hnw := newer_allocH w (.cells (smC y) 26)
 have hbx := Whole.made w 26 (smC y)
 have x0 := hbx.at 0 (v := .slice y.sa y.s.spots.length y.sc) rfl
 have HB := Lib.hid hbx
 have HN := Lib.hid hnw
 have HOK := Lib.hid hok
 have HF := Lib.hid hf
 have HS := Lib.hid hs
 obtain ⟨res, hres⟩ : ∃ q, q = isFieldB y.s f := ⟨_, rfl⟩
 rw [← hres]
 rw [isField_is] at hres
 have HRS := Lib.hid hres
 clear hnw hbx hok hf hs hres
 by_cases hl : f.length = y.s.spots.length
 case neg =>
  have HRF := Lib.hid (show res = false by rw [HRS.out]; simp [hl])
  have hln : ((f.length : Int) != y.s.spots.length) = true := by rw [bne_iff_ne]; omega
  clear hl
  go_enter Try.func77, Try.ntmps77
  go_wp2_with fail
  go_ret
  exact ⟨ret_bool HRF.out.symm, HN.out⟩
 case pos =>
  have HLE := Lib.hid hl
  obtain ⟨m0, hm0⟩ : ∃ m, f[0]? = some m := ⟨_, List.getElem?_eq_getElem (by have := HS.out.spots; omega)⟩
  obtain ⟨fb, fo, ef, -⟩ := row2 HF.out hm0
  subst ef
  clear hm0 m0
  have hln : ((f.length : Int) != y.s.spots.length) = false := by rw [bne_eq_false_iff_eq]; omega
  clear hl
  go_enter Try.func77, Try.ntmps77
  go_wp2_with fail
  clear x0
  go_loopw [5] (fun s5 wr => ∃ i : Nat, i ≤ f.length ∧ s5 = vi i ∧ (∀ j, j < i → okF y.s f j = true) ∧ newer w wr ∧ Whole wr w.heap.size 26 (smC y)) (fun s5 _ => f.length - (intOf s5).toNat)
  case atStart => exact ⟨0, Nat.zero_le _, rfl, fun j hj => absurd hj (Nat.not_lt_zero _), HN.out, HB.out⟩
  case round =>
   obtain ⟨i, hi, rfl, hall, hnw, hxb⟩ := hrel
   have HJ := Lib.hid (And.intro hall (And.intro hnw hxb))
   clear hall hnw hxb
   by_cases hlt : i < f.length
   case neg =>
    obtain rfl : i = f.length := by omega
    have HR := Lib.hid (show res = true by rw [HRS.out, decide_eq_true HLE.out, all_range_ok HJ.out.1]; rfl)
    go_wp2_with fail
    go_ret
    exact ⟨ret_bool HR.out.symm, HJ.out.2.1⟩
   case pos =>
    obtain ⟨m, hm⟩ : ∃ m, f[i]? = some m := ⟨_, List.getElem?_eq_getElem hlt⟩
    obtain ⟨p, hp⟩ : ∃ p, y.s.spots[i]? = some p := ⟨_, List.getElem?_eq_getElem (by have := HLE.out; omega)⟩
    have HM := Lib.hid (And.intro hm hp)
    obtain ⟨w4, hw4⟩ : ∃ w4 : World, w4 = wr := ⟨_, rfl⟩
    rw [← hw4] at HJ ⊢
    clear hw4
    have hfr := (HF.out.below HJ.out.2.1).more HJ.out.2.1.size
    obtain ⟨m0, m1⟩ := mv_at hfr hm
    obtain ⟨sb, so, es, hsb, p0, p1, p2, p3⟩ := row4 (HOK.out.next HJ.out.2.1).sp hp
    have x0 := HJ.out.2.2.at 0 (v := .slice y.sa y.s.spots.length y.sc) rfl
    have x1 := HJ.out.2.2.at 1 (v := vi y.s.strain) rfl
    have x2 := HJ.out.2.2.at 2 (v := .slice y.ta y.s.tools.length y.tc) rfl
    have x3 := HJ.out.2.2.at 3 (v := vi y.s.day) rfl
    have x4 := HJ.out.2.2.at 4 (v := .slice y.ra y.s.reads.length y.rc) rfl
    have z0 := x0
    rw [es] at z0
    have hif : (i : Int) < f.length := by omega
    have his : (i : Int) < y.s.spots.length := by have := HLE.out; omega
    clear hm hp es hsb
    have hpk := HS.out.spot p (List.mem_of_getElem? HM.out.2)
    unfold rgOk at hpk
    have HW1 := Lib.hid (fun W => in_any m.1 p.x.lo p.x.hi W)
    have HW2 := Lib.hid (fun W => in_any m.2 p.y.lo p.y.hi W)
    have HOF : Hid (okF y.s f i = (inB m.1 p.x.lo p.x.hi && inB m.2 p.y.lo p.y.hi && (decide (i = 0) || nearB y.s.strain (fnL f (i - 1)) m))) := Lib.hid (by unfold okF; rw [HM.out.1, HM.out.2])
    have HBAD := Lib.hid (show okF y.s f i = false → res = false from fun h => by
     rw [HRS.out, all_range_bad hlt h, Bool.and_false])
    have HGO := Lib.hid (show okF y.s f i = true → ∀ j, j < i + 1 → okF y.s f j = true from fun h j hj => by
     by_cases e : j = i
     ·rw [e]; exact h
     ·exact HJ.out.1 j (by omega))
    obtain ⟨v1, hv1⟩ : ∃ q, q = inB m.1 p.x.lo p.x.hi := ⟨_, rfl⟩
    obtain ⟨v2, hv2⟩ : ∃ q, q = inB m.2 p.y.lo p.y.hi := ⟨_, rfl⟩
    rw [← hv1] at HW1 HOF
    rw [← hv2] at HW2 HOF
    have HV := Lib.hid (And.intro hv1 hv2)
    clear hv1 hv2
    cases v1 with
    | false =>
     have HR := Lib.hid (HBAD.out (by rw [HOF.out]; rfl))
     go_upto_region 6 with fail
     refine wp_words (by kernel_rfl) (region_told_u 61 (by kernel_rfl) (by kernel_rfl) [false, false, false, false, false, false, false, false, false, false, false, false, false, false, false, false, false, false, false, false, false, false, true, true, true, true, true, true, true, true, true, true, true, true, true, true, true, true, true, true, true, true, true, false, false, true, true, true, true, true, true, true, true, true, true, true, true, true, true, true, true] (fun W => Below w4.heap.size w4 W) newer [vIs (.slice (some ⟨fb, fo, none⟩) f.length fc), vIs (.int .i64 i), vIs (.pointer (some ⟨fb, fo + i * 2, none⟩)), vIs (.pointer (some ⟨fb, fo + i * 2, none⟩)), vIs (vi m.1), vIs (.pointer (some ⟨w.heap.size, 0, none⟩)), vIs (.slice (some ⟨sb, so, none⟩) y.s.spots.length y.sc), vIs (.int .i64 i), vIs (.pointer (some ⟨sb, so + i * 4, none⟩)), vIs (.pointer (some ⟨sb, so + i * 4, none⟩)), vIs (.pointer (some ⟨sb, so + i * 4, none⟩)), vIs (vi p.x.lo), vIs (.pointer (some ⟨w.heap.size, 0, none⟩)), vIs (.slice (some ⟨sb, so, none⟩) y.s.spots.length y.sc), vIs (.int .i64 i), vIs (.pointer (some ⟨sb, so + i * 4, none⟩)), vIs (.pointer (some ⟨sb, so + i * 4, none⟩)), vIs (.pointer (some ⟨sb, so + i * 4 + 1, none⟩)), vIs (vi p.x.hi), vIs (.bool false), vIs (.bool true), vIs (.bool true), vIs (undef), vIs (undef), vIs (undef), vIs (undef), vIs (undef), vIs (undef), vIs (undef), vIs (undef), vIs (undef), vIs (undef), vIs (undef), vIs (undef), vIs (undef), vIs (undef), vIs (undef), vIs (undef), vIs (undef), vIs (undef), vIs (undef), vIs (undef), vIs (undef), vIs (.bool true), vIs (.bool true), vIs (undef), vIs (undef), vIs (undef), vIs (undef), vIs (undef), vIs (undef), vIs (undef), vIs (undef), vIs (undef), vIs (undef), vIs (undef), vIs (undef), vIs (undef), vIs (undef), vIs (undef), vIs (undef)] (by repeat' first | refine And.intro ?_ ?_ | exact trivial | exact rfl | (intro v W h; obtain rfl : v = _ := h; first | rfl | (simp; done) | (simp [undef]; done))) (by repeat' first | refine And.intro ?_ ?_ | exact trivial | exact (fun h => Bool.noConfusion (show false = true from h)) | exact (fun _ _ => rfl)) (fun h k => newer_trans h k) (pickD_stable _ (by repeat' first | refine And.intro ?_ ?_ | exact trivial | exact vIs_st)) (Below.refl _ w4).drew (Below.refl _ _) ?_ ?_)
     ·refine ⟨.inr ?_, .inr ?_, .inr ?_, .inr ?_, .inr ?_, .inr ?_, .inr ?_, .inr ?_, .inr ?_, .inr ?_, .inr ?_, .inr ?_, .inr ?_, .inr ?_, .inr ?_, .inr ?_, .inr ?_, .inr ?_, .inr ?_, .inr ?_, .inr ?_, .inr ?_, .inl rfl, .inl rfl, .inl rfl, .inl rfl, .inl rfl, .inl rfl, .inl rfl, .inl rfl, .inl rfl, .inl rfl, .inl rfl, .inl rfl, .inl rfl, .inl rfl, .inl rfl, .inl rfl, .inl rfl, .inl rfl, .inl rfl, .inl rfl, .inl rfl, .inr ?_, .inr ?_, .inl rfl, .inl rfl, .inl rfl, .inl rfl, .inl rfl, .inl rfl, .inl rfl, .inl rfl, .inl rfl, .inl rfl, .inl rfl, .inl rfl, .inl rfl, .inl rfl, .inl rfl, .inl rfl, trivial⟩
      ·exact fun a W hG _ hO _ => kM 1 rfl (hO.slot 1 (by kernel_rfl)) rfl hG
      ·exact fun a W hG _ hO _ => kM 5 rfl (hO.slot 5 (by kernel_rfl)) rfl hG
      ·intro a W hG hR hO hp; have h18 : slotOf a 18 = .slice (some ⟨fb, fo, none⟩) f.length fc := hp.1; have h19 : slotOf a 19 = .int .i64 i := hp.2.1; refine kY (v := .pointer (some ⟨fb, fo + i * 2, none⟩)) hG rfl ?_; simp [slotOf] at h18 h19; simp [execOp, go_sem, h18, h19, hif]
      ·intro a W hG hR hO hp; have h20 : slotOf a 20 = .pointer (some ⟨fb, fo + i * 2, none⟩) := hp.1; refine kY (v := .pointer (some ⟨fb, fo + i * 2, none⟩)) hG rfl ?_; simp [slotOf] at h20; simp [execOp, go_sem, h20]
      ·intro a W hG hR hO hp; have h21 : slotOf a 21 = .pointer (some ⟨fb, fo + i * 2, none⟩) := hp.1; have c0 := keep_cell m0 hG; refine kY (v := vi m.1) hG rfl ?_; simp [slotOf] at h21; simp [execOp, go_sem, h21, c0]
      ·intro a W hG hR hO hp; have h2 := hO.slot 2 (by kernel_rfl); refine kY (v := .pointer (some ⟨w.heap.size, 0, none⟩)) hG rfl ?_; simp [slotOf] at h2; simp [execOp, go_sem, h2]
      ·intro a W hG hR hO hp; have h23 : slotOf a 23 = .pointer (some ⟨w.heap.size, 0, none⟩) := hp.1; have c0 := keep_cell z0 hG; refine kY (v := .slice (some ⟨sb, so, none⟩) y.s.spots.length y.sc) hG rfl ?_; simp [slotOf] at h23; simp [execOp, go_sem, h23, c0]
      ·exact fun a W hG _ hO _ => kM 5 rfl (hO.slot 5 (by kernel_rfl)) rfl hG
      ·intro a W hG hR hO hp; have h24 : slotOf a 24 = .slice (some ⟨sb, so, none⟩) y.s.spots.length y.sc := hp.1; have h25 : slotOf a 25 = .int .i64 i := hp.2.1; refine kY (v := .pointer (some ⟨sb, so + i * 4, none⟩)) hG rfl ?_; simp [slotOf] at h24 h25; simp [execOp, go_sem, h24, h25, his]
      ·intro a W hG hR hO hp; have h26 : slotOf a 26 = .pointer (some ⟨sb, so + i * 4, none⟩) := hp.1; refine kY (v := .pointer (some ⟨sb, so + i * 4, none⟩)) hG rfl ?_; simp [slotOf] at h26; simp [execOp, go_sem, h26]
      ·intro a W hG hR hO hp; have h27 : slotOf a 27 = .pointer (some ⟨sb, so + i * 4, none⟩) := hp.1; refine kY (v := .pointer (some ⟨sb, so + i * 4, none⟩)) hG rfl ?_; simp [slotOf] at h27; simp [execOp, go_sem, h27]
      ·intro a W hG hR hO hp; have h28 : slotOf a 28 = .pointer (some ⟨sb, so + i * 4, none⟩) := hp.1; have c0 := keep_cell p0 hG; refine kY (v := vi p.x.lo) hG rfl ?_; simp [slotOf] at h28; simp [execOp, go_sem, h28, c0]
      ·intro a W hG hR hO hp; have h2 := hO.slot 2 (by kernel_rfl); refine kY (v := .pointer (some ⟨w.heap.size, 0, none⟩)) hG rfl ?_; simp [slotOf] at h2; simp [execOp, go_sem, h2]
      ·intro a W hG hR hO hp; have h30 : slotOf a 30 = .pointer (some ⟨w.heap.size, 0, none⟩) := hp.1; have c0 := keep_cell z0 hG; refine kY (v := .slice (some ⟨sb, so, none⟩) y.s.spots.length y.sc) hG rfl ?_; simp [slotOf] at h30; simp [execOp, go_sem, h30, c0]
      ·exact fun a W hG _ hO _ => kM 5 rfl (hO.slot 5 (by kernel_rfl)) rfl hG
      ·intro a W hG hR hO hp; have h31 : slotOf a 31 = .slice (some ⟨sb, so, none⟩) y.s.spots.length y.sc := hp.1; have h32 : slotOf a 32 = .int .i64 i := hp.2.1; refine kY (v := .pointer (some ⟨sb, so + i * 4, none⟩)) hG rfl ?_; simp [slotOf] at h31 h32; simp [execOp, go_sem, h31, h32, his]
      ·intro a W hG hR hO hp; have h33 : slotOf a 33 = .pointer (some ⟨sb, so + i * 4, none⟩) := hp.1; refine kY (v := .pointer (some ⟨sb, so + i * 4, none⟩)) hG rfl ?_; simp [slotOf] at h33; simp [execOp, go_sem, h33]
      ·intro a W hG hR hO hp; have h34 : slotOf a 34 = .pointer (some ⟨sb, so + i * 4, none⟩) := hp.1; refine kY (v := .pointer (some ⟨sb, so + i * 4 + 1, none⟩)) hG rfl ?_; simp [slotOf] at h34; simp [execOp, go_sem, h34]
      ·intro a W hG hR hO hp; have h35 : slotOf a 35 = .pointer (some ⟨sb, so + i * 4 + 1, none⟩) := hp.1; have c0 := keep_cell p1 hG; refine kY (v := vi p.x.hi) hG rfl ?_; simp [slotOf] at h35; simp [execOp, go_sem, h35, c0]
      ·intro a W hG hR hO hp
       have h22 : slotOf a 22 = vi m.1 := hp.1
       have h29 : slotOf a 29 = vi p.x.lo := hp.2.1
       have h36 : slotOf a 36 = vi p.x.hi := hp.2.2.1
       refine wp_enters (f := 25) (args := #[vi m.1, vi p.x.lo, vi p.x.hi]) ?_ ((HW1.out W).mono ?_)
       ·simp [slotOf] at h22 h29 h36
        simp [go_sem, h22, h29, h36]
       ·rintro e w' ⟨rfl, rfl⟩
        exact ⟨_, rfl, _, rfl, rfl, Below.refl _ _, hG⟩
      ·intro a W hG hR hO hp; have h37 : slotOf a 37 = .bool false := hp.1; refine kY (v := .bool true) hG rfl ?_; simp [slotOf] at h37; simp [execOp, go_sem, h37]
      ·exact fun a W hG _ _ hp => kM 38 rfl hp.1 rfl hG
      ·intro a W hG hR hO hp; have h39 : slotOf a 39 = .bool true := hp.1; have h60 : slotOf a 60 = undef := hp.2.1; refine kY (v := .bool true) hG rfl ?_; simp [slotOf] at h39 h60; simp [execOp, go_sem, h39, h60]
      ·exact fun a W hG _ _ hp => kM 61 rfl hp.1 rfl hG
     ·intro w5 hG hR
      rintro _ rfl _ rfl _ rfl _ rfl _ rfl _ rfl _ rfl _ rfl _ rfl _ rfl _ rfl _ rfl _ rfl _ rfl _ rfl _ rfl _ rfl _ rfl _ rfl _ rfl _ rfl _ rfl _ rfl _ rfl _ rfl _ rfl _ rfl _ rfl _ rfl _ rfl _ rfl _ rfl _ rfl _ rfl _ rfl _ rfl _ rfl _ rfl _ rfl _ rfl _ rfl _ rfl _ rfl _ rfl _ rfl _ rfl _ rfl _ rfl _ rfl _ rfl _ rfl _ rfl _ rfl _ rfl _ rfl _ rfl _ rfl _ rfl _ rfl _ rfl _ rfl
      change wpList _ _ _ _ _ _
      simp only [Act.put, List.setIfInBounds_toArray, List.set_cons_zero, List.set_cons_succ, List.drop_succ_cons, List.drop_zero]
      have HE4 := Lib.hid (newer_trans HJ.out.2.1 hG)
      clear hG hR hfr m0 m1 p0 p1 p2 p3 x0 x1 x2 x3 x4 z0
      go_wp2_with fail
      go_ret
      exact ⟨ret_bool HR.out.symm, HE4.out⟩
    | true =>
     cases v2 with
     | false =>
      have HR := Lib.hid (HBAD.out (by rw [HOF.out]; rfl))
      go_upto_region 6 with fail
      refine wp_words (by kernel_rfl) (region_told_u 61 (by kernel_rfl) (by kernel_rfl) [false, false, false, false, false, false, false, false, false, false, false, false, false, false, false, false, false, false, false, false, false, false, false, false, false, false, false, false, false, false, false, false, false, false, false, false, false, false, false, false, false, false, false, false, false, true, true, true, true, true, true, true, true, true, true, true, true, true, true, true, true] (fun W => Below w4.heap.size w4 W) newer [vIs (.slice (some ⟨fb, fo, none⟩) f.length fc), vIs (.int .i64 i), vIs (.pointer (some ⟨fb, fo + i * 2, none⟩)), vIs (.pointer (some ⟨fb, fo + i * 2, none⟩)), vIs (vi m.1), vIs (.pointer (some ⟨w.heap.size, 0, none⟩)), vIs (.slice (some ⟨sb, so, none⟩) y.s.spots.length y.sc), vIs (.int .i64 i), vIs (.pointer (some ⟨sb, so + i * 4, none⟩)), vIs (.pointer (some ⟨sb, so + i * 4, none⟩)), vIs (.pointer (some ⟨sb, so + i * 4, none⟩)), vIs (vi p.x.lo), vIs (.pointer (some ⟨w.heap.size, 0, none⟩)), vIs (.slice (some ⟨sb, so, none⟩) y.s.spots.length y.sc), vIs (.int .i64 i), vIs (.pointer (some ⟨sb, so + i * 4, none⟩)), vIs (.pointer (some ⟨sb, so + i * 4, none⟩)), vIs (.pointer (some ⟨sb, so + i * 4 + 1, none⟩)), vIs (vi p.x.hi), vIs (.bool true), vIs (.bool false), vIs (.bool false), vIs (.slice (some ⟨fb, fo, none⟩) f.length fc), vIs (.int .i64 i), vIs (.pointer (some ⟨fb, fo + i * 2, none⟩)), vIs (.pointer (some ⟨fb, fo + i * 2 + 1, none⟩)), vIs (vi m.2), vIs (.pointer (some ⟨w.heap.size, 0, none⟩)), vIs (.slice (some ⟨sb, so, none⟩) y.s.spots.length y.sc), vIs (.int .i64 i), vIs (.pointer (some ⟨sb, so + i * 4, none⟩)), vIs (.pointer (some ⟨sb, so + i * 4 + 2, none⟩)), vIs (.pointer (some ⟨sb, so + i * 4 + 2, none⟩)), vIs (vi p.y.lo), vIs (.pointer (some ⟨w.heap.size, 0, none⟩)), vIs (.slice (some ⟨sb, so, none⟩) y.s.spots.length y.sc), vIs (.int .i64 i), vIs (.pointer (some ⟨sb, so + i * 4, none⟩)), vIs (.pointer (some ⟨sb, so + i * 4 + 2, none⟩)), vIs (.pointer (some ⟨sb, so + i * 4 + 3, none⟩)), vIs (vi p.y.hi), vIs (.bool false), vIs (.bool true), vIs (.bool true), vIs (.bool true), vIs (undef), vIs (undef), vIs (undef), vIs (undef), vIs (undef), vIs (undef), vIs (undef), vIs (undef), vIs (undef), vIs (undef), vIs (undef), vIs (undef), vIs (undef), vIs (undef), vIs (undef), vIs (undef)] (by repeat' first | refine And.intro ?_ ?_ | exact trivial | exact rfl | (intro v W h; obtain rfl : v = _ := h; first | rfl | (simp; done) | (simp [undef]; done))) (by repeat' first | refine And.intro ?_ ?_ | exact trivial | exact (fun h => Bool.noConfusion (show false = true from h)) | exact (fun _ _ => rfl)) (fun h k => newer_trans h k) (pickD_stable _ (by repeat' first | refine And.intro ?_ ?_ | exact trivial | exact vIs_st)) (Below.refl _ w4).drew (Below.refl _ _) ?_ ?_)
      ·refine ⟨.inr ?_, .inr ?_, .inr ?_, .inr ?_, .inr ?_, .inr ?_, .inr ?_, .inr ?_, .inr ?_, .inr ?_, .inr ?_, .inr ?_, .inr ?_, .inr ?_, .inr ?_, .inr ?_, .inr ?_, .inr ?_, .inr ?_, .inr ?_, .inr ?_, .inr ?_, .inr ?_, .inr ?_, .inr ?_, .inr ?_, .inr ?_, .inr ?_, .inr ?_, .inr ?_, .inr ?_, .inr ?_, .inr ?_, .inr ?_, .inr ?_, .inr ?_, .inr ?_, .inr ?_, .inr ?_, .inr ?_, .inr ?_, .inr ?_, .inr ?_, .inr ?_, .inr ?_, .inl rfl, .inl rfl, .inl rfl, .inl rfl, .inl rfl, .inl rfl, .inl rfl, .inl rfl, .inl rfl, .inl rfl, .inl rfl, .inl rfl, .inl rfl, .inl rfl, .inl rfl, .inl rfl, trivial⟩
       ·exact fun a W hG _ hO _ => kM 1 rfl (hO.slot 1 (by kernel_rfl)) rfl hG
       ·exact fun a W hG _ hO _ => kM 5 rfl (hO.slot 5 (by kernel_rfl)) rfl hG
       ·intro a W hG hR hO hp; have h18 : slotOf a 18 = .slice (some ⟨fb, fo, none⟩) f.length fc := hp.1; have h19 : slotOf a 19 = .int .i64 i := hp.2.1; refine kY (v := .pointer (some ⟨fb, fo + i * 2, none⟩)) hG rfl ?_; simp [slotOf] at h18 h19; simp [execOp, go_sem, h18, h19, hif]
       ·intro a W hG hR hO hp; have h20 : slotOf a 20 = .pointer (some ⟨fb, fo + i * 2, none⟩) := hp.1; refine kY (v := .pointer (some ⟨fb, fo + i * 2, none⟩)) hG rfl ?_; simp [slotOf] at h20; simp [execOp, go_sem, h20]
       ·intro a W hG hR hO hp; have h21 : slotOf a 21 = .pointer (some ⟨fb, fo + i * 2, none⟩) := hp.1; have c0 := keep_cell m0 hG; refine kY (v := vi m.1) hG rfl ?_; simp [slotOf] at h21; simp [execOp, go_sem, h21, c0]
       ·intro a W hG hR hO hp; have h2 := hO.slot 2 (by kernel_rfl); refine kY (v := .pointer (some ⟨w.heap.size, 0, none⟩)) hG rfl ?_; simp [slotOf] at h2; simp [execOp, go_sem, h2]
       ·intro a W hG hR hO hp; have h23 : slotOf a 23 = .pointer (some ⟨w.heap.size, 0, none⟩) := hp.1; have c0 := keep_cell z0 hG; refine kY (v := .slice (some ⟨sb, so, none⟩) y.s.spots.length y.sc) hG rfl ?_; simp [slotOf] at h23; simp [execOp, go_sem, h23, c0]
       ·exact fun a W hG _ hO _ => kM 5 rfl (hO.slot 5 (by kernel_rfl)) rfl hG
       ·intro a W hG hR hO hp; have h24 : slotOf a 24 = .slice (some ⟨sb, so, none⟩) y.s.spots.length y.sc := hp.1; have h25 : slotOf a 25 = .int .i64 i := hp.2.1; refine kY (v := .pointer (some ⟨sb, so + i * 4, none⟩)) hG rfl ?_; simp [slotOf] at h24 h25; simp [execOp, go_sem, h24, h25, his]
       ·intro a W hG hR hO hp; have h26 : slotOf a 26 = .pointer (some ⟨sb, so + i * 4, none⟩) := hp.1; refine kY (v := .pointer (some ⟨sb, so + i * 4, none⟩)) hG rfl ?_; simp [slotOf] at h26; simp [execOp, go_sem, h26]
       ·intro a W hG hR hO hp; have h27 : slotOf a 27 = .pointer (some ⟨sb, so + i * 4, none⟩) := hp.1; refine kY (v := .pointer (some ⟨sb, so + i * 4, none⟩)) hG rfl ?_; simp [slotOf] at h27; simp [execOp, go_sem, h27]
       ·intro a W hG hR hO hp; have h28 : slotOf a 28 = .pointer (some ⟨sb, so + i * 4, none⟩) := hp.1; have c0 := keep_cell p0 hG; refine kY (v := vi p.x.lo) hG rfl ?_; simp [slotOf] at h28; simp [execOp, go_sem, h28, c0]
       ·intro a W hG hR hO hp; have h2 := hO.slot 2 (by kernel_rfl); refine kY (v := .pointer (some ⟨w.heap.size, 0, none⟩)) hG rfl ?_; simp [slotOf] at h2; simp [execOp, go_sem, h2]
       ·intro a W hG hR hO hp; have h30 : slotOf a 30 = .pointer (some ⟨w.heap.size, 0, none⟩) := hp.1; have c0 := keep_cell z0 hG; refine kY (v := .slice (some ⟨sb, so, none⟩) y.s.spots.length y.sc) hG rfl ?_; simp [slotOf] at h30; simp [execOp, go_sem, h30, c0]
       ·exact fun a W hG _ hO _ => kM 5 rfl (hO.slot 5 (by kernel_rfl)) rfl hG
       ·intro a W hG hR hO hp; have h31 : slotOf a 31 = .slice (some ⟨sb, so, none⟩) y.s.spots.length y.sc := hp.1; have h32 : slotOf a 32 = .int .i64 i := hp.2.1; refine kY (v := .pointer (some ⟨sb, so + i * 4, none⟩)) hG rfl ?_; simp [slotOf] at h31 h32; simp [execOp, go_sem, h31, h32, his]
       ·intro a W hG hR hO hp; have h33 : slotOf a 33 = .pointer (some ⟨sb, so + i * 4, none⟩) := hp.1; refine kY (v := .pointer (some ⟨sb, so + i * 4, none⟩)) hG rfl ?_; simp [slotOf] at h33; simp [execOp, go_sem, h33]
       ·intro a W hG hR hO hp; have h34 : slotOf a 34 = .pointer (some ⟨sb, so + i * 4, none⟩) := hp.1; refine kY (v := .pointer (some ⟨sb, so + i * 4 + 1, none⟩)) hG rfl ?_; simp [slotOf] at h34; simp [execOp, go_sem, h34]
       ·intro a W hG hR hO hp; have h35 : slotOf a 35 = .pointer (some ⟨sb, so + i * 4 + 1, none⟩) := hp.1; have c0 := keep_cell p1 hG; refine kY (v := vi p.x.hi) hG rfl ?_; simp [slotOf] at h35; simp [execOp, go_sem, h35, c0]
       ·intro a W hG hR hO hp
        have h22 : slotOf a 22 = vi m.1 := hp.1
        have h29 : slotOf a 29 = vi p.x.lo := hp.2.1
        have h36 : slotOf a 36 = vi p.x.hi := hp.2.2.1
        refine wp_enters (f := 25) (args := #[vi m.1, vi p.x.lo, vi p.x.hi]) ?_ ((HW1.out W).mono ?_)
        ·simp [slotOf] at h22 h29 h36
         simp [go_sem, h22, h29, h36]
        ·rintro e w' ⟨rfl, rfl⟩
         exact ⟨_, rfl, _, rfl, rfl, Below.refl _ _, hG⟩
       ·intro a W hG hR hO hp; have h37 : slotOf a 37 = .bool true := hp.1; refine kY (v := .bool false) hG rfl ?_; simp [slotOf] at h37; simp [execOp, go_sem, h37]
       ·exact fun a W hG _ _ hp => kM 38 rfl hp.1 rfl hG
       ·exact fun a W hG _ hO _ => kM 1 rfl (hO.slot 1 (by kernel_rfl)) rfl hG
       ·exact fun a W hG _ hO _ => kM 5 rfl (hO.slot 5 (by kernel_rfl)) rfl hG
       ·intro a W hG hR hO hp; have h40 : slotOf a 40 = .slice (some ⟨fb, fo, none⟩) f.length fc := hp.1; have h41 : slotOf a 41 = .int .i64 i := hp.2.1; refine kY (v := .pointer (some ⟨fb, fo + i * 2, none⟩)) hG rfl ?_; simp [slotOf] at h40 h41; simp [execOp, go_sem, h40, h41, hif]
       ·intro a W hG hR hO hp; have h42 : slotOf a 42 = .pointer (some ⟨fb, fo + i * 2, none⟩) := hp.1; refine kY (v := .pointer (some ⟨fb, fo + i * 2 + 1, none⟩)) hG rfl ?_; simp [slotOf] at h42; simp [execOp, go_sem, h42]
       ·intro a W hG hR hO hp; have h43 : slotOf a 43 = .pointer (some ⟨fb, fo + i * 2 + 1, none⟩) := hp.1; have c0 := keep_cell m1 hG; refine kY (v := vi m.2) hG rfl ?_; simp [slotOf] at h43; simp [execOp, go_sem, h43, c0]
       ·intro a W hG hR hO hp; have h2 := hO.slot 2 (by kernel_rfl); refine kY (v := .pointer (some ⟨w.heap.size, 0, none⟩)) hG rfl ?_; simp [slotOf] at h2; simp [execOp, go_sem, h2]
       ·intro a W hG hR hO hp; have h45 : slotOf a 45 = .pointer (some ⟨w.heap.size, 0, none⟩) := hp.1; have c0 := keep_cell z0 hG; refine kY (v := .slice (some ⟨sb, so, none⟩) y.s.spots.length y.sc) hG rfl ?_; simp [slotOf] at h45; simp [execOp, go_sem, h45, c0]
       ·exact fun a W hG _ hO _ => kM 5 rfl (hO.slot 5 (by kernel_rfl)) rfl hG
       ·intro a W hG hR hO hp; have h46 : slotOf a 46 = .slice (some ⟨sb, so, none⟩) y.s.spots.length y.sc := hp.1; have h47 : slotOf a 47 = .int .i64 i := hp.2.1; refine kY (v := .pointer (some ⟨sb, so + i * 4, none⟩)) hG rfl ?_; simp [slotOf] at h46 h47; simp [execOp, go_sem, h46, h47, his]
       ·intro a W hG hR hO hp; have h48 : slotOf a 48 = .pointer (some ⟨sb, so + i * 4, none⟩) := hp.1; refine kY (v := .pointer (some ⟨sb, so + i * 4 + 2, none⟩)) hG rfl ?_; simp [slotOf] at h48; simp [execOp, go_sem, h48]
       ·intro a W hG hR hO hp; have h49 : slotOf a 49 = .pointer (some ⟨sb, so + i * 4 + 2, none⟩) := hp.1; refine kY (v := .pointer (some ⟨sb, so + i * 4 + 2, none⟩)) hG rfl ?_; simp [slotOf] at h49; simp [execOp, go_sem, h49]
       ·intro a W hG hR hO hp; have h50 : slotOf a 50 = .pointer (some ⟨sb, so + i * 4 + 2, none⟩) := hp.1; have c0 := keep_cell p2 hG; refine kY (v := vi p.y.lo) hG rfl ?_; simp [slotOf] at h50; simp [execOp, go_sem, h50, c0]
       ·intro a W hG hR hO hp; have h2 := hO.slot 2 (by kernel_rfl); refine kY (v := .pointer (some ⟨w.heap.size, 0, none⟩)) hG rfl ?_; simp [slotOf] at h2; simp [execOp, go_sem, h2]
       ·intro a W hG hR hO hp; have h52 : slotOf a 52 = .pointer (some ⟨w.heap.size, 0, none⟩) := hp.1; have c0 := keep_cell z0 hG; refine kY (v := .slice (some ⟨sb, so, none⟩) y.s.spots.length y.sc) hG rfl ?_; simp [slotOf] at h52; simp [execOp, go_sem, h52, c0]
       ·exact fun a W hG _ hO _ => kM 5 rfl (hO.slot 5 (by kernel_rfl)) rfl hG
       ·intro a W hG hR hO hp; have h53 : slotOf a 53 = .slice (some ⟨sb, so, none⟩) y.s.spots.length y.sc := hp.1; have h54 : slotOf a 54 = .int .i64 i := hp.2.1; refine kY (v := .pointer (some ⟨sb, so + i * 4, none⟩)) hG rfl ?_; simp [slotOf] at h53 h54; simp [execOp, go_sem, h53, h54, his]
       ·intro a W hG hR hO hp; have h55 : slotOf a 55 = .pointer (some ⟨sb, so + i * 4, none⟩) := hp.1; refine kY (v := .pointer (some ⟨sb, so + i * 4 + 2, none⟩)) hG rfl ?_; simp [slotOf] at h55; simp [execOp, go_sem, h55]
       ·intro a W hG hR hO hp; have h56 : slotOf a 56 = .pointer (some ⟨sb, so + i * 4 + 2, none⟩) := hp.1; refine kY (v := .pointer (some ⟨sb, so + i * 4 + 3, none⟩)) hG rfl ?_; simp [slotOf] at h56; simp [execOp, go_sem, h56]
       ·intro a W hG hR hO hp; have h57 : slotOf a 57 = .pointer (some ⟨sb, so + i * 4 + 3, none⟩) := hp.1; have c0 := keep_cell p3 hG; refine kY (v := vi p.y.hi) hG rfl ?_; simp [slotOf] at h57; simp [execOp, go_sem, h57, c0]
       ·intro a W hG hR hO hp
        have h44 : slotOf a 44 = vi m.2 := hp.1
        have h51 : slotOf a 51 = vi p.y.lo := hp.2.1
        have h58 : slotOf a 58 = vi p.y.hi := hp.2.2.1
        refine wp_enters (f := 25) (args := #[vi m.2, vi p.y.lo, vi p.y.hi]) ?_ ((HW2.out W).mono ?_)
        ·simp [slotOf] at h44 h51 h58
         simp [go_sem, h44, h51, h58]
        ·rintro e w' ⟨rfl, rfl⟩
         exact ⟨_, rfl, _, rfl, rfl, Below.refl _ _, hG⟩
       ·intro a W hG hR hO hp; have h59 : slotOf a 59 = .bool false := hp.1; refine kY (v := .bool true) hG rfl ?_; simp [slotOf] at h59; simp [execOp, go_sem, h59]
       ·intro a W hG hR hO hp; have h39 : slotOf a 39 = .bool false := hp.1; have h60 : slotOf a 60 = .bool true := hp.2.1; refine kY (v := .bool true) hG rfl ?_; simp [slotOf] at h39 h60; simp [execOp, go_sem, h39, h60]
       ·exact fun a W hG _ _ hp => kM 61 rfl hp.1 rfl hG
      ·intro w5 hG hR
       rintro _ rfl _ rfl _ rfl _ rfl _ rfl _ rfl _ rfl _ rfl _ rfl _ rfl _ rfl _ rfl _ rfl _ rfl _ rfl _ rfl _ rfl _ rfl _ rfl _ rfl _ rfl _ rfl _ rfl _ rfl _ rfl _ rfl _ rfl _ rfl _ rfl _ rfl _ rfl _ rfl _ rfl _ rfl _ rfl _ rfl _ rfl _ rfl _ rfl _ rfl _ rfl _ rfl _ rfl _ rfl _ rfl _ rfl _ rfl _ rfl _ rfl _ rfl _ rfl _ rfl _ rfl _ rfl _ rfl _ rfl _ rfl _ rfl _ rfl _ rfl _ rfl
       change wpList _ _ _ _ _ _
       simp only [Act.put, List.setIfInBounds_toArray, List.set_cons_zero, List.set_cons_succ, List.drop_succ_cons, List.drop_zero]
       have HE4 := Lib.hid (newer_trans HJ.out.2.1 hG)
       clear hG hR hfr m0 m1 p0 p1 p2 p3 x0 x1 x2 x3 x4 z0
       go_wp2_with fail
       go_ret
       exact ⟨ret_bool HR.out.symm, HE4.out⟩
     | true =>
      by_cases hi0 : i = 0
      case pos =>
       have HG2 := Lib.hid (HGO.out (by rw [HOF.out]; simp [hi0]))
       go_upto_region 6 with fail
       refine wp_words (by kernel_rfl) (region_told_u 61 (by kernel_rfl) (by kernel_rfl) [false, false, false, false, false, false, false, false, false, false, false, false, false, false, false, false, false, false, false, false, false, false, false, false, false, false, false, false, false, false, false, false, false, false, false, false, false, false, false, false, false, false, false, false, false, false, false, false, true, true, true, true, true, true, true, true, true, true, true, true, false] (fun W => Below w4.heap.size w4 W) newer [vIs (.slice (some ⟨fb, fo, none⟩) f.length fc), vIs (.int .i64 i), vIs (.pointer (some ⟨fb, fo + i * 2, none⟩)), vIs (.pointer (some ⟨fb, fo + i * 2, none⟩)), vIs (vi m.1), vIs (.pointer (some ⟨w.heap.size, 0, none⟩)), vIs (.slice (some ⟨sb, so, none⟩) y.s.spots.length y.sc), vIs (.int .i64 i), vIs (.pointer (some ⟨sb, so + i * 4, none⟩)), vIs (.pointer (some ⟨sb, so + i * 4, none⟩)), vIs (.pointer (some ⟨sb, so + i * 4, none⟩)), vIs (vi p.x.lo), vIs (.pointer (some ⟨w.heap.size, 0, none⟩)), vIs (.slice (some ⟨sb, so, none⟩) y.s.spots.length y.sc), vIs (.int .i64 i), vIs (.pointer (some ⟨sb, so + i * 4, none⟩)), vIs (.pointer (some ⟨sb, so + i * 4, none⟩)), vIs (.pointer (some ⟨sb, so + i * 4 + 1, none⟩)), vIs (vi p.x.hi), vIs (.bool true), vIs (.bool false), vIs (.bool false), vIs (.slice (some ⟨fb, fo, none⟩) f.length fc), vIs (.int .i64 i), vIs (.pointer (some ⟨fb, fo + i * 2, none⟩)), vIs (.pointer (some ⟨fb, fo + i * 2 + 1, none⟩)), vIs (vi m.2), vIs (.pointer (some ⟨w.heap.size, 0, none⟩)), vIs (.slice (some ⟨sb, so, none⟩) y.s.spots.length y.sc), vIs (.int .i64 i), vIs (.pointer (some ⟨sb, so + i * 4, none⟩)), vIs (.pointer (some ⟨sb, so + i * 4 + 2, none⟩)), vIs (.pointer (some ⟨sb, so + i * 4 + 2, none⟩)), vIs (vi p.y.lo), vIs (.pointer (some ⟨w.heap.size, 0, none⟩)), vIs (.slice (some ⟨sb, so, none⟩) y.s.spots.length y.sc), vIs (.int .i64 i), vIs (.pointer (some ⟨sb, so + i * 4, none⟩)), vIs (.pointer (some ⟨sb, so + i * 4 + 2, none⟩)), vIs (.pointer (some ⟨sb, so + i * 4 + 3, none⟩)), vIs (vi p.y.hi), vIs (.bool true), vIs (.bool false), vIs (.bool false), vIs (.bool false), vIs (.int .i64 i), vIs (.bool false), vIs (.bool false), vIs (undef), vIs (undef), vIs (undef), vIs (undef), vIs (undef), vIs (undef), vIs (undef), vIs (undef), vIs (undef), vIs (undef), vIs (undef), vIs (undef), vIs (.bool false)] (by repeat' first | refine And.intro ?_ ?_ | exact trivial | exact rfl | (intro v W h; obtain rfl : v = _ := h; first | rfl | (simp; done) | (simp [undef]; done))) (by repeat' first | refine And.intro ?_ ?_ | exact trivial | exact (fun h => Bool.noConfusion (show false = true from h)) | exact (fun _ _ => rfl)) (fun h k => newer_trans h k) (pickD_stable _ (by repeat' first | refine And.intro ?_ ?_ | exact trivial | exact vIs_st)) (Below.refl _ w4).drew (Below.refl _ _) ?_ ?_)
       ·refine ⟨.inr ?_, .inr ?_, .inr ?_, .inr ?_, .inr ?_, .inr ?_, .inr ?_, .inr ?_, .inr ?_, .inr ?_, .inr ?_, .inr ?_, .inr ?_, .inr ?_, .inr ?_, .inr ?_, .inr ?_, .inr ?_, .inr ?_, .inr ?_, .inr ?_, .inr ?_, .inr ?_, .inr ?_, .inr ?_, .inr ?_, .inr ?_, .inr ?_, .inr ?_, .inr ?_, .inr ?_, .inr ?_, .inr ?_, .inr ?_, .inr ?_, .inr ?_, .inr ?_, .inr ?_, .inr ?_, .inr ?_, .inr ?_, .inr ?_, .inr ?_, .inr ?_, .inr ?_, .inr ?_, .inr ?_, .inr ?_, .inl rfl, .inl rfl, .inl rfl, .inl rfl, .inl rfl, .inl rfl, .inl rfl, .inl rfl, .inl rfl, .inl rfl, .inl rfl, .inl rfl, .inr ?_, trivial⟩
        ·exact fun a W hG _ hO _ => kM 1 rfl (hO.slot 1 (by kernel_rfl)) rfl hG
        ·exact fun a W hG _ hO _ => kM 5 rfl (hO.slot 5 (by kernel_rfl)) rfl hG
        ·intro a W hG hR hO hp; have h18 : slotOf a 18 = .slice (some ⟨fb, fo, none⟩) f.length fc := hp.1; have h19 : slotOf a 19 = .int .i64 i := hp.2.1; refine kY (v := .pointer (some ⟨fb, fo + i * 2, none⟩)) hG rfl ?_; simp [slotOf] at h18 h19; simp [execOp, go_sem, h18, h19, hif]
        ·intro a W hG hR hO hp; have h20 : slotOf a 20 = .pointer (some ⟨fb, fo + i * 2, none⟩) := hp.1; refine kY (v := .pointer (some ⟨fb, fo + i * 2, none⟩)) hG rfl ?_; simp [slotOf] at h20; simp [execOp, go_sem, h20]
        ·intro a W hG hR hO hp; have h21 : slotOf a 21 = .pointer (some ⟨fb, fo + i * 2, none⟩) := hp.1; have c0 := keep_cell m0 hG; refine kY (v := vi m.1) hG rfl ?_; simp [slotOf] at h21; simp [execOp, go_sem, h21, c0]
        ·intro a W hG hR hO hp; have h2 := hO.slot 2 (by kernel_rfl); refine kY (v := .pointer (some ⟨w.heap.size, 0, none⟩)) hG rfl ?_; simp [slotOf] at h2; simp [execOp, go_sem, h2]
        ·intro a W hG hR hO hp; have h23 : slotOf a 23 = .pointer (some ⟨w.heap.size, 0, none⟩) := hp.1; have c0 := keep_cell z0 hG; refine kY (v := .slice (some ⟨sb, so, none⟩) y.s.spots.length y.sc) hG rfl ?_; simp [slotOf] at h23; simp [execOp, go_sem, h23, c0]
        ·exact fun a W hG _ hO _ => kM 5 rfl (hO.slot 5 (by kernel_rfl)) rfl hG
        ·intro a W hG hR hO hp; have h24 : slotOf a 24 = .slice (some ⟨sb, so, none⟩) y.s.spots.length y.sc := hp.1; have h25 : slotOf a 25 = .int .i64 i := hp.2.1; refine kY (v := .pointer (some ⟨sb, so + i * 4, none⟩)) hG rfl ?_; simp [slotOf] at h24 h25; simp [execOp, go_sem, h24, h25, his]
        ·intro a W hG hR hO hp; have h26 : slotOf a 26 = .pointer (some ⟨sb, so + i * 4, none⟩) := hp.1; refine kY (v := .pointer (some ⟨sb, so + i * 4, none⟩)) hG rfl ?_; simp [slotOf] at h26; simp [execOp, go_sem, h26]
        ·intro a W hG hR hO hp; have h27 : slotOf a 27 = .pointer (some ⟨sb, so + i * 4, none⟩) := hp.1; refine kY (v := .pointer (some ⟨sb, so + i * 4, none⟩)) hG rfl ?_; simp [slotOf] at h27; simp [execOp, go_sem, h27]
        ·intro a W hG hR hO hp; have h28 : slotOf a 28 = .pointer (some ⟨sb, so + i * 4, none⟩) := hp.1; have c0 := keep_cell p0 hG; refine kY (v := vi p.x.lo) hG rfl ?_; simp [slotOf] at h28; simp [execOp, go_sem, h28, c0]
        ·intro a W hG hR hO hp; have h2 := hO.slot 2 (by kernel_rfl); refine kY (v := .pointer (some ⟨w.heap.size, 0, none⟩)) hG rfl ?_; simp [slotOf] at h2; simp [execOp, go_sem, h2]
        ·intro a W hG hR hO hp; have h30 : slotOf a 30 = .pointer (some ⟨w.heap.size, 0, none⟩) := hp.1; have c0 := keep_cell z0 hG; refine kY (v := .slice (some ⟨sb, so, none⟩) y.s.spots.length y.sc) hG rfl ?_; simp [slotOf] at h30; simp [execOp, go_sem, h30, c0]
        ·exact fun a W hG _ hO _ => kM 5 rfl (hO.slot 5 (by kernel_rfl)) rfl hG
        ·intro a W hG hR hO hp; have h31 : slotOf a 31 = .slice (some ⟨sb, so, none⟩) y.s.spots.length y.sc := hp.1; have h32 : slotOf a 32 = .int .i64 i := hp.2.1; refine kY (v := .pointer (some ⟨sb, so + i * 4, none⟩)) hG rfl ?_; simp [slotOf] at h31 h32; simp [execOp, go_sem, h31, h32, his]
        ·intro a W hG hR hO hp; have h33 : slotOf a 33 = .pointer (some ⟨sb, so + i * 4, none⟩) := hp.1; refine kY (v := .pointer (some ⟨sb, so + i * 4, none⟩)) hG rfl ?_; simp [slotOf] at h33; simp [execOp, go_sem, h33]
        ·intro a W hG hR hO hp; have h34 : slotOf a 34 = .pointer (some ⟨sb, so + i * 4, none⟩) := hp.1; refine kY (v := .pointer (some ⟨sb, so + i * 4 + 1, none⟩)) hG rfl ?_; simp [slotOf] at h34; simp [execOp, go_sem, h34]
        ·intro a W hG hR hO hp; have h35 : slotOf a 35 = .pointer (some ⟨sb, so + i * 4 + 1, none⟩) := hp.1; have c0 := keep_cell p1 hG; refine kY (v := vi p.x.hi) hG rfl ?_; simp [slotOf] at h35; simp [execOp, go_sem, h35, c0]
        ·intro a W hG hR hO hp
         have h22 : slotOf a 22 = vi m.1 := hp.1
         have h29 : slotOf a 29 = vi p.x.lo := hp.2.1
         have h36 : slotOf a 36 = vi p.x.hi := hp.2.2.1
         refine wp_enters (f := 25) (args := #[vi m.1, vi p.x.lo, vi p.x.hi]) ?_ ((HW1.out W).mono ?_)
         ·simp [slotOf] at h22 h29 h36
          simp [go_sem, h22, h29, h36]
         ·rintro e w' ⟨rfl, rfl⟩
          exact ⟨_, rfl, _, rfl, rfl, Below.refl _ _, hG⟩
        ·intro a W hG hR hO hp; have h37 : slotOf a 37 = .bool true := hp.1; refine kY (v := .bool false) hG rfl ?_; simp [slotOf] at h37; simp [execOp, go_sem, h37]
        ·exact fun a W hG _ _ hp => kM 38 rfl hp.1 rfl hG
        ·exact fun a W hG _ hO _ => kM 1 rfl (hO.slot 1 (by kernel_rfl)) rfl hG
        ·exact fun a W hG _ hO _ => kM 5 rfl (hO.slot 5 (by kernel_rfl)) rfl hG
        ·intro a W hG hR hO hp; have h40 : slotOf a 40 = .slice (some ⟨fb, fo, none⟩) f.length fc := hp.1; have h41 : slotOf a 41 = .int .i64 i := hp.2.1; refine kY (v := .pointer (some ⟨fb, fo + i * 2, none⟩)) hG rfl ?_; simp [slotOf] at h40 h41; simp [execOp, go_sem, h40, h41, hif]
        ·intro a W hG hR hO hp; have h42 : slotOf a 42 = .pointer (some ⟨fb, fo + i * 2, none⟩) := hp.1; refine kY (v := .pointer (some ⟨fb, fo + i * 2 + 1, none⟩)) hG rfl ?_; simp [slotOf] at h42; simp [execOp, go_sem, h42]
        ·intro a W hG hR hO hp; have h43 : slotOf a 43 = .pointer (some ⟨fb, fo + i * 2 + 1, none⟩) := hp.1; have c0 := keep_cell m1 hG; refine kY (v := vi m.2) hG rfl ?_; simp [slotOf] at h43; simp [execOp, go_sem, h43, c0]
        ·intro a W hG hR hO hp; have h2 := hO.slot 2 (by kernel_rfl); refine kY (v := .pointer (some ⟨w.heap.size, 0, none⟩)) hG rfl ?_; simp [slotOf] at h2; simp [execOp, go_sem, h2]
        ·intro a W hG hR hO hp; have h45 : slotOf a 45 = .pointer (some ⟨w.heap.size, 0, none⟩) := hp.1; have c0 := keep_cell z0 hG; refine kY (v := .slice (some ⟨sb, so, none⟩) y.s.spots.length y.sc) hG rfl ?_; simp [slotOf] at h45; simp [execOp, go_sem, h45, c0]
        ·exact fun a W hG _ hO _ => kM 5 rfl (hO.slot 5 (by kernel_rfl)) rfl hG
        ·intro a W hG hR hO hp; have h46 : slotOf a 46 = .slice (some ⟨sb, so, none⟩) y.s.spots.length y.sc := hp.1; have h47 : slotOf a 47 = .int .i64 i := hp.2.1; refine kY (v := .pointer (some ⟨sb, so + i * 4, none⟩)) hG rfl ?_; simp [slotOf] at h46 h47; simp [execOp, go_sem, h46, h47, his]
        ·intro a W hG hR hO hp; have h48 : slotOf a 48 = .pointer (some ⟨sb, so + i * 4, none⟩) := hp.1; refine kY (v := .pointer (some ⟨sb, so + i * 4 + 2, none⟩)) hG rfl ?_; simp [slotOf] at h48; simp [execOp, go_sem, h48]
        ·intro a W hG hR hO hp; have h49 : slotOf a 49 = .pointer (some ⟨sb, so + i * 4 + 2, none⟩) := hp.1; refine kY (v := .pointer (some ⟨sb, so + i * 4 + 2, none⟩)) hG rfl ?_; simp [slotOf] at h49; simp [execOp, go_sem, h49]
        ·intro a W hG hR hO hp; have h50 : slotOf a 50 = .pointer (some ⟨sb, so + i * 4 + 2, none⟩) := hp.1; have c0 := keep_cell p2 hG; refine kY (v := vi p.y.lo) hG rfl ?_; simp [slotOf] at h50; simp [execOp, go_sem, h50, c0]
        ·intro a W hG hR hO hp; have h2 := hO.slot 2 (by kernel_rfl); refine kY (v := .pointer (some ⟨w.heap.size, 0, none⟩)) hG rfl ?_; simp [slotOf] at h2; simp [execOp, go_sem, h2]
        ·intro a W hG hR hO hp; have h52 : slotOf a 52 = .pointer (some ⟨w.heap.size, 0, none⟩) := hp.1; have c0 := keep_cell z0 hG; refine kY (v := .slice (some ⟨sb, so, none⟩) y.s.spots.length y.sc) hG rfl ?_; simp [slotOf] at h52; simp [execOp, go_sem, h52, c0]
        ·exact fun a W hG _ hO _ => kM 5 rfl (hO.slot 5 (by kernel_rfl)) rfl hG
        ·intro a W hG hR hO hp; have h53 : slotOf a 53 = .slice (some ⟨sb, so, none⟩) y.s.spots.length y.sc := hp.1; have h54 : slotOf a 54 = .int .i64 i := hp.2.1; refine kY (v := .pointer (some ⟨sb, so + i * 4, none⟩)) hG rfl ?_; simp [slotOf] at h53 h54; simp [execOp, go_sem, h53, h54, his]
        ·intro a W hG hR hO hp; have h55 : slotOf a 55 = .pointer (some ⟨sb, so + i * 4, none⟩) := hp.1; refine kY (v := .pointer (some ⟨sb, so + i * 4 + 2, none⟩)) hG rfl ?_; simp [slotOf] at h55; simp [execOp, go_sem, h55]
        ·intro a W hG hR hO hp; have h56 : slotOf a 56 = .pointer (some ⟨sb, so + i * 4 + 2, none⟩) := hp.1; refine kY (v := .pointer (some ⟨sb, so + i * 4 + 3, none⟩)) hG rfl ?_; simp [slotOf] at h56; simp [execOp, go_sem, h56]
        ·intro a W hG hR hO hp; have h57 : slotOf a 57 = .pointer (some ⟨sb, so + i * 4 + 3, none⟩) := hp.1; have c0 := keep_cell p3 hG; refine kY (v := vi p.y.hi) hG rfl ?_; simp [slotOf] at h57; simp [execOp, go_sem, h57, c0]
        ·intro a W hG hR hO hp
         have h44 : slotOf a 44 = vi m.2 := hp.1
         have h51 : slotOf a 51 = vi p.y.lo := hp.2.1
         have h58 : slotOf a 58 = vi p.y.hi := hp.2.2.1
         refine wp_enters (f := 25) (args := #[vi m.2, vi p.y.lo, vi p.y.hi]) ?_ ((HW2.out W).mono ?_)
         ·simp [slotOf] at h44 h51 h58
          simp [go_sem, h44, h51, h58]
         ·rintro e w' ⟨rfl, rfl⟩
          exact ⟨_, rfl, _, rfl, rfl, Below.refl _ _, hG⟩
        ·intro a W hG hR hO hp; have h59 : slotOf a 59 = .bool true := hp.1; refine kY (v := .bool false) hG rfl ?_; simp [slotOf] at h59; simp [execOp, go_sem, h59]
        ·intro a W hG hR hO hp; have h39 : slotOf a 39 = .bool false := hp.1; have h60 : slotOf a 60 = .bool false := hp.2.1; refine kY (v := .bool false) hG rfl ?_; simp [slotOf] at h39 h60; simp [execOp, go_sem, h39, h60]
        ·exact fun a W hG _ _ hp => kM 61 rfl hp.1 rfl hG
        ·exact fun a W hG _ hO _ => kM 5 rfl (hO.slot 5 (by kernel_rfl)) rfl hG
        ·intro a W hG hR hO hp; have h63 : slotOf a 63 = .int .i64 i := hp.1; refine kY (v := .bool false) hG rfl ?_; simp [slotOf] at h63; simp [execOp, go_sem, h63, hi0]
        ·exact fun a W hG _ _ hp => kM 64 rfl hp.1 rfl hG
        ·intro a W hG hR hO hp; have h65 : slotOf a 65 = .bool false := hp.1; have h77 : slotOf a 77 = undef := hp.2.1; refine kY (v := .bool false) hG rfl ?_; simp [slotOf] at h65 h77; simp [execOp, go_sem, h65, h77]
       ·intro w5 hG hR
        rintro _ rfl _ rfl _ rfl _ rfl _ rfl _ rfl _ rfl _ rfl _ rfl _ rfl _ rfl _ rfl _ rfl _ rfl _ rfl _ rfl _ rfl _ rfl _ rfl _ rfl _ rfl _ rfl _ rfl _ rfl _ rfl _ rfl _ rfl _ rfl _ rfl _ rfl _ rfl _ rfl _ rfl _ rfl _ rfl _ rfl _ rfl _ rfl _ rfl _ rfl _ rfl _ rfl _ rfl _ rfl _ rfl _ rfl _ rfl _ rfl _ rfl _ rfl _ rfl _ rfl _ rfl _ rfl _ rfl _ rfl _ rfl _ rfl _ rfl _ rfl _ rfl
        change wpList _ _ _ _ _ _
        simp only [Act.put, List.setIfInBounds_toArray, List.set_cons_zero, List.set_cons_succ, List.drop_succ_cons, List.drop_zero]
        have HE4 := Lib.hid (show newer w w5 ∧ Whole w5 w.heap.size 26 (smC y) from ⟨newer_trans HJ.out.2.1 hG, HJ.out.2.2.below hG HJ.out.2.2.lt⟩)
        clear hG hR hfr m0 m1 p0 p1 p2 p3 x0 x1 x2 x3 x4 z0 hi0
        go_wp2_with fail
        go_roundw
        case rel => exact ⟨i + 1, by omega, by go_num, HG2.out, HE4.out.1, HE4.out.2⟩
        case measure => simp [intOf]; omega
      case neg =>
       have hi1 : 0 < i := by omega
       obtain ⟨j, hj⟩ : ∃ j, i = j + 1 := ⟨i - 1, by omega⟩
       have hij : IntKind.i64.wrap ((i : Int) - 1) = (j : Int) := by rw [show (i : Int) - 1 = j by omega]; exact IntWalk.i64_in _ (by omega)
       have hjf : (j : Int) < f.length := by omega
       obtain ⟨o, ho⟩ : ∃ o, f[j]? = some o := ⟨_, List.getElem?_eq_getElem (by omega)⟩
       obtain ⟨o0, o1⟩ := mv_at hfr ho
       have hoj : okF y.s f j = true := HJ.out.1 j (by omega)
       have hob : (-30 ≤ o.1 ∧ o.1 ≤ 30) ∧ -30 ≤ o.2 ∧ o.2 ≤ 30 := by
        obtain ⟨p', hp'⟩ : ∃ p, y.s.spots[j]? = some p := ⟨_, List.getElem?_eq_getElem (by have := HLE.out; omega)⟩
        have hpk' := HS.out.spot p' (List.mem_of_getElem? hp')
        unfold okF at hoj
        rw [ho, hp'] at hoj
        simp only [inB, Bool.and_eq_true, decide_eq_true_eq] at hoj
        unfold rgOk at hpk'
        omega
       have hmb : (-30 ≤ m.1 ∧ m.1 ≤ 30) ∧ -30 ≤ m.2 ∧ m.2 ≤ 30 := by
        have h1 := HV.out
        simp only [inB, Bool.true_eq, Bool.and_eq_true, decide_eq_true_eq] at h1
        omega
       have HNR := Lib.hid (fun W => refNear_any y o m W (by omega) (by omega) (by omega) (by omega))
       obtain ⟨nr, hnr⟩ : ∃ q, q = nearB y.s.strain o m := ⟨_, rfl⟩
       rw [← hnr] at HNR
       have HNE : Hid (okF y.s f i = nr) := Lib.hid (by
        rw [HOF.out, show i - 1 = j by omega, fnL_at ho, ← hnr]
        have e : decide (i = 0) = false := decide_eq_false (by omega)
        rw [e]
        rfl)
       clear hi0 hj ho hoj hob hmb hnr
       have hi0 := hi1
       clear hi1
       cases nr with
       | false =>
        have HR := Lib.hid (HBAD.out HNE.out)
        go_upto_region 6 with fail
        refine wp_words (by kernel_rfl) (region_told_u 61 (by kernel_rfl) (by kernel_rfl) [false, false, false, false, false, false, false, false, false, false, false, false, false, false, false, false, false, false, false, false, false, false, false, false, false, false, false, false, false, false, false, false, false, false, false, false, false, false, false, false, false, false, false, false, false, false, false, false, false, false, false, false, false, false, false, false, false, false, false, false, false] (fun W => Below w4.heap.size w4 W) newer [vIs (.slice (some ⟨fb, fo, none⟩) f.length fc), vIs (.int .i64 i), vIs (.pointer (some ⟨fb, fo + i * 2, none⟩)), vIs (.pointer (some ⟨fb, fo + i * 2, none⟩)), vIs (vi m.1), vIs (.pointer (some ⟨w.heap.size, 0, none⟩)), vIs (.slice (some ⟨sb, so, none⟩) y.s.spots.length y.sc), vIs (.int .i64 i), vIs (.pointer (some ⟨sb, so + i * 4, none⟩)), vIs (.pointer (some ⟨sb, so + i * 4, none⟩)), vIs (.pointer (some ⟨sb, so + i * 4, none⟩)), vIs (vi p.x.lo), vIs (.pointer (some ⟨w.heap.size, 0, none⟩)), vIs (.slice (some ⟨sb, so, none⟩) y.s.spots.length y.sc), vIs (.int .i64 i), vIs (.pointer (some ⟨sb, so + i * 4, none⟩)), vIs (.pointer (some ⟨sb, so + i * 4, none⟩)), vIs (.pointer (some ⟨sb, so + i * 4 + 1, none⟩)), vIs (vi p.x.hi), vIs (.bool true), vIs (.bool false), vIs (.bool false), vIs (.slice (some ⟨fb, fo, none⟩) f.length fc), vIs (.int .i64 i), vIs (.pointer (some ⟨fb, fo + i * 2, none⟩)), vIs (.pointer (some ⟨fb, fo + i * 2 + 1, none⟩)), vIs (vi m.2), vIs (.pointer (some ⟨w.heap.size, 0, none⟩)), vIs (.slice (some ⟨sb, so, none⟩) y.s.spots.length y.sc), vIs (.int .i64 i), vIs (.pointer (some ⟨sb, so + i * 4, none⟩)), vIs (.pointer (some ⟨sb, so + i * 4 + 2, none⟩)), vIs (.pointer (some ⟨sb, so + i * 4 + 2, none⟩)), vIs (vi p.y.lo), vIs (.pointer (some ⟨w.heap.size, 0, none⟩)), vIs (.slice (some ⟨sb, so, none⟩) y.s.spots.length y.sc), vIs (.int .i64 i), vIs (.pointer (some ⟨sb, so + i * 4, none⟩)), vIs (.pointer (some ⟨sb, so + i * 4 + 2, none⟩)), vIs (.pointer (some ⟨sb, so + i * 4 + 3, none⟩)), vIs (vi p.y.hi), vIs (.bool true), vIs (.bool false), vIs (.bool false), vIs (.bool false), vIs (.int .i64 i), vIs (.bool true), vIs (.bool true), vIs (smV y), vIs (.slice (some ⟨fb, fo, none⟩) f.length fc), vIs (.int .i64 i), vIs (.int .i64 j), vIs (.pointer (some ⟨fb, fo + j * 2, none⟩)), vIs (mvV o), vIs (.slice (some ⟨fb, fo, none⟩) f.length fc), vIs (.int .i64 i), vIs (.pointer (some ⟨fb, fo + i * 2, none⟩)), vIs (mvV m), vIs (.bool false), vIs (.bool true), vIs (.bool true)] (by repeat' first | refine And.intro ?_ ?_ | exact trivial | exact rfl | (intro v W h; obtain rfl : v = _ := h; first | rfl | (simp; done) | (simp [undef]; done))) (by repeat' first | refine And.intro ?_ ?_ | exact trivial | exact (fun h => Bool.noConfusion (show false = true from h)) | exact (fun _ _ => rfl)) (fun h k => newer_trans h k) (pickD_stable _ (by repeat' first | refine And.intro ?_ ?_ | exact trivial | exact vIs_st)) (Below.refl _ w4).drew (Below.refl _ _) ?_ ?_)
        ·refine ⟨.inr ?_, .inr ?_, .inr ?_, .inr ?_, .inr ?_, .inr ?_, .inr ?_, .inr ?_, .inr ?_, .inr ?_, .inr ?_, .inr ?_, .inr ?_, .inr ?_, .inr ?_, .inr ?_, .inr ?_, .inr ?_, .inr ?_, .inr ?_, .inr ?_, .inr ?_, .inr ?_, .inr ?_, .inr ?_, .inr ?_, .inr ?_, .inr ?_, .inr ?_, .inr ?_, .inr ?_, .inr ?_, .inr ?_, .inr ?_, .inr ?_, .inr ?_, .inr ?_, .inr ?_, .inr ?_, .inr ?_, .inr ?_, .inr ?_, .inr ?_, .inr ?_, .inr ?_, .inr ?_, .inr ?_, .inr ?_, .inr ?_, .inr ?_, .inr ?_, .inr ?_, .inr ?_, .inr ?_, .inr ?_, .inr ?_, .inr ?_, .inr ?_, .inr ?_, .inr ?_, .inr ?_, trivial⟩
         ·exact fun a W hG _ hO _ => kM 1 rfl (hO.slot 1 (by kernel_rfl)) rfl hG
         ·exact fun a W hG _ hO _ => kM 5 rfl (hO.slot 5 (by kernel_rfl)) rfl hG
         ·intro a W hG hR hO hp; have h18 : slotOf a 18 = .slice (some ⟨fb, fo, none⟩) f.length fc := hp.1; have h19 : slotOf a 19 = .int .i64 i := hp.2.1; refine kY (v := .pointer (some ⟨fb, fo + i * 2, none⟩)) hG rfl ?_; simp [slotOf] at h18 h19; simp [execOp, go_sem, h18, h19, hif]
         ·intro a W hG hR hO hp; have h20 : slotOf a 20 = .pointer (some ⟨fb, fo + i * 2, none⟩) := hp.1; refine kY (v := .pointer (some ⟨fb, fo + i * 2, none⟩)) hG rfl ?_; simp [slotOf] at h20; simp [execOp, go_sem, h20]
         ·intro a W hG hR hO hp; have h21 : slotOf a 21 = .pointer (some ⟨fb, fo + i * 2, none⟩) := hp.1; have c0 := keep_cell m0 hG; refine kY (v := vi m.1) hG rfl ?_; simp [slotOf] at h21; simp [execOp, go_sem, h21, c0]
         ·intro a W hG hR hO hp; have h2 := hO.slot 2 (by kernel_rfl); refine kY (v := .pointer (some ⟨w.heap.size, 0, none⟩)) hG rfl ?_; simp [slotOf] at h2; simp [execOp, go_sem, h2]
         ·intro a W hG hR hO hp; have h23 : slotOf a 23 = .pointer (some ⟨w.heap.size, 0, none⟩) := hp.1; have c0 := keep_cell z0 hG; refine kY (v := .slice (some ⟨sb, so, none⟩) y.s.spots.length y.sc) hG rfl ?_; simp [slotOf] at h23; simp [execOp, go_sem, h23, c0]
         ·exact fun a W hG _ hO _ => kM 5 rfl (hO.slot 5 (by kernel_rfl)) rfl hG
         ·intro a W hG hR hO hp; have h24 : slotOf a 24 = .slice (some ⟨sb, so, none⟩) y.s.spots.length y.sc := hp.1; have h25 : slotOf a 25 = .int .i64 i := hp.2.1; refine kY (v := .pointer (some ⟨sb, so + i * 4, none⟩)) hG rfl ?_; simp [slotOf] at h24 h25; simp [execOp, go_sem, h24, h25, his]
         ·intro a W hG hR hO hp; have h26 : slotOf a 26 = .pointer (some ⟨sb, so + i * 4, none⟩) := hp.1; refine kY (v := .pointer (some ⟨sb, so + i * 4, none⟩)) hG rfl ?_; simp [slotOf] at h26; simp [execOp, go_sem, h26]
         ·intro a W hG hR hO hp; have h27 : slotOf a 27 = .pointer (some ⟨sb, so + i * 4, none⟩) := hp.1; refine kY (v := .pointer (some ⟨sb, so + i * 4, none⟩)) hG rfl ?_; simp [slotOf] at h27; simp [execOp, go_sem, h27]
         ·intro a W hG hR hO hp; have h28 : slotOf a 28 = .pointer (some ⟨sb, so + i * 4, none⟩) := hp.1; have c0 := keep_cell p0 hG; refine kY (v := vi p.x.lo) hG rfl ?_; simp [slotOf] at h28; simp [execOp, go_sem, h28, c0]
         ·intro a W hG hR hO hp; have h2 := hO.slot 2 (by kernel_rfl); refine kY (v := .pointer (some ⟨w.heap.size, 0, none⟩)) hG rfl ?_; simp [slotOf] at h2; simp [execOp, go_sem, h2]
         ·intro a W hG hR hO hp; have h30 : slotOf a 30 = .pointer (some ⟨w.heap.size, 0, none⟩) := hp.1; have c0 := keep_cell z0 hG; refine kY (v := .slice (some ⟨sb, so, none⟩) y.s.spots.length y.sc) hG rfl ?_; simp [slotOf] at h30; simp [execOp, go_sem, h30, c0]
         ·exact fun a W hG _ hO _ => kM 5 rfl (hO.slot 5 (by kernel_rfl)) rfl hG
         ·intro a W hG hR hO hp; have h31 : slotOf a 31 = .slice (some ⟨sb, so, none⟩) y.s.spots.length y.sc := hp.1; have h32 : slotOf a 32 = .int .i64 i := hp.2.1; refine kY (v := .pointer (some ⟨sb, so + i * 4, none⟩)) hG rfl ?_; simp [slotOf] at h31 h32; simp [execOp, go_sem, h31, h32, his]
         ·intro a W hG hR hO hp; have h33 : slotOf a 33 = .pointer (some ⟨sb, so + i * 4, none⟩) := hp.1; refine kY (v := .pointer (some ⟨sb, so + i * 4, none⟩)) hG rfl ?_; simp [slotOf] at h33; simp [execOp, go_sem, h33]
         ·intro a W hG hR hO hp; have h34 : slotOf a 34 = .pointer (some ⟨sb, so + i * 4, none⟩) := hp.1; refine kY (v := .pointer (some ⟨sb, so + i * 4 + 1, none⟩)) hG rfl ?_; simp [slotOf] at h34; simp [execOp, go_sem, h34]
         ·intro a W hG hR hO hp; have h35 : slotOf a 35 = .pointer (some ⟨sb, so + i * 4 + 1, none⟩) := hp.1; have c0 := keep_cell p1 hG; refine kY (v := vi p.x.hi) hG rfl ?_; simp [slotOf] at h35; simp [execOp, go_sem, h35, c0]
         ·intro a W hG hR hO hp
          have h22 : slotOf a 22 = vi m.1 := hp.1
          have h29 : slotOf a 29 = vi p.x.lo := hp.2.1
          have h36 : slotOf a 36 = vi p.x.hi := hp.2.2.1
          refine wp_enters (f := 25) (args := #[vi m.1, vi p.x.lo, vi p.x.hi]) ?_ ((HW1.out W).mono ?_)
          ·simp [slotOf] at h22 h29 h36
           simp [go_sem, h22, h29, h36]
          ·rintro e w' ⟨rfl, rfl⟩
           exact ⟨_, rfl, _, rfl, rfl, Below.refl _ _, hG⟩
         ·intro a W hG hR hO hp; have h37 : slotOf a 37 = .bool true := hp.1; refine kY (v := .bool false) hG rfl ?_; simp [slotOf] at h37; simp [execOp, go_sem, h37]
         ·exact fun a W hG _ _ hp => kM 38 rfl hp.1 rfl hG
         ·exact fun a W hG _ hO _ => kM 1 rfl (hO.slot 1 (by kernel_rfl)) rfl hG
         ·exact fun a W hG _ hO _ => kM 5 rfl (hO.slot 5 (by kernel_rfl)) rfl hG
         ·intro a W hG hR hO hp; have h40 : slotOf a 40 = .slice (some ⟨fb, fo, none⟩) f.length fc := hp.1; have h41 : slotOf a 41 = .int .i64 i := hp.2.1; refine kY (v := .pointer (some ⟨fb, fo + i * 2, none⟩)) hG rfl ?_; simp [slotOf] at h40 h41; simp [execOp, go_sem, h40, h41, hif]
         ·intro a W hG hR hO hp; have h42 : slotOf a 42 = .pointer (some ⟨fb, fo + i * 2, none⟩) := hp.1; refine kY (v := .pointer (some ⟨fb, fo + i * 2 + 1, none⟩)) hG rfl ?_; simp [slotOf] at h42; simp [execOp, go_sem, h42]
         ·intro a W hG hR hO hp; have h43 : slotOf a 43 = .pointer (some ⟨fb, fo + i * 2 + 1, none⟩) := hp.1; have c0 := keep_cell m1 hG; refine kY (v := vi m.2) hG rfl ?_; simp [slotOf] at h43; simp [execOp, go_sem, h43, c0]
         ·intro a W hG hR hO hp; have h2 := hO.slot 2 (by kernel_rfl); refine kY (v := .pointer (some ⟨w.heap.size, 0, none⟩)) hG rfl ?_; simp [slotOf] at h2; simp [execOp, go_sem, h2]
         ·intro a W hG hR hO hp; have h45 : slotOf a 45 = .pointer (some ⟨w.heap.size, 0, none⟩) := hp.1; have c0 := keep_cell z0 hG; refine kY (v := .slice (some ⟨sb, so, none⟩) y.s.spots.length y.sc) hG rfl ?_; simp [slotOf] at h45; simp [execOp, go_sem, h45, c0]
         ·exact fun a W hG _ hO _ => kM 5 rfl (hO.slot 5 (by kernel_rfl)) rfl hG
         ·intro a W hG hR hO hp; have h46 : slotOf a 46 = .slice (some ⟨sb, so, none⟩) y.s.spots.length y.sc := hp.1; have h47 : slotOf a 47 = .int .i64 i := hp.2.1; refine kY (v := .pointer (some ⟨sb, so + i * 4, none⟩)) hG rfl ?_; simp [slotOf] at h46 h47; simp [execOp, go_sem, h46, h47, his]
         ·intro a W hG hR hO hp; have h48 : slotOf a 48 = .pointer (some ⟨sb, so + i * 4, none⟩) := hp.1; refine kY (v := .pointer (some ⟨sb, so + i * 4 + 2, none⟩)) hG rfl ?_; simp [slotOf] at h48; simp [execOp, go_sem, h48]
         ·intro a W hG hR hO hp; have h49 : slotOf a 49 = .pointer (some ⟨sb, so + i * 4 + 2, none⟩) := hp.1; refine kY (v := .pointer (some ⟨sb, so + i * 4 + 2, none⟩)) hG rfl ?_; simp [slotOf] at h49; simp [execOp, go_sem, h49]
         ·intro a W hG hR hO hp; have h50 : slotOf a 50 = .pointer (some ⟨sb, so + i * 4 + 2, none⟩) := hp.1; have c0 := keep_cell p2 hG; refine kY (v := vi p.y.lo) hG rfl ?_; simp [slotOf] at h50; simp [execOp, go_sem, h50, c0]
         ·intro a W hG hR hO hp; have h2 := hO.slot 2 (by kernel_rfl); refine kY (v := .pointer (some ⟨w.heap.size, 0, none⟩)) hG rfl ?_; simp [slotOf] at h2; simp [execOp, go_sem, h2]
         ·intro a W hG hR hO hp; have h52 : slotOf a 52 = .pointer (some ⟨w.heap.size, 0, none⟩) := hp.1; have c0 := keep_cell z0 hG; refine kY (v := .slice (some ⟨sb, so, none⟩) y.s.spots.length y.sc) hG rfl ?_; simp [slotOf] at h52; simp [execOp, go_sem, h52, c0]
         ·exact fun a W hG _ hO _ => kM 5 rfl (hO.slot 5 (by kernel_rfl)) rfl hG
         ·intro a W hG hR hO hp; have h53 : slotOf a 53 = .slice (some ⟨sb, so, none⟩) y.s.spots.length y.sc := hp.1; have h54 : slotOf a 54 = .int .i64 i := hp.2.1; refine kY (v := .pointer (some ⟨sb, so + i * 4, none⟩)) hG rfl ?_; simp [slotOf] at h53 h54; simp [execOp, go_sem, h53, h54, his]
         ·intro a W hG hR hO hp; have h55 : slotOf a 55 = .pointer (some ⟨sb, so + i * 4, none⟩) := hp.1; refine kY (v := .pointer (some ⟨sb, so + i * 4 + 2, none⟩)) hG rfl ?_; simp [slotOf] at h55; simp [execOp, go_sem, h55]
         ·intro a W hG hR hO hp; have h56 : slotOf a 56 = .pointer (some ⟨sb, so + i * 4 + 2, none⟩) := hp.1; refine kY (v := .pointer (some ⟨sb, so + i * 4 + 3, none⟩)) hG rfl ?_; simp [slotOf] at h56; simp [execOp, go_sem, h56]
         ·intro a W hG hR hO hp; have h57 : slotOf a 57 = .pointer (some ⟨sb, so + i * 4 + 3, none⟩) := hp.1; have c0 := keep_cell p3 hG; refine kY (v := vi p.y.hi) hG rfl ?_; simp [slotOf] at h57; simp [execOp, go_sem, h57, c0]
         ·intro a W hG hR hO hp
          have h44 : slotOf a 44 = vi m.2 := hp.1
          have h51 : slotOf a 51 = vi p.y.lo := hp.2.1
          have h58 : slotOf a 58 = vi p.y.hi := hp.2.2.1
          refine wp_enters (f := 25) (args := #[vi m.2, vi p.y.lo, vi p.y.hi]) ?_ ((HW2.out W).mono ?_)
          ·simp [slotOf] at h44 h51 h58
           simp [go_sem, h44, h51, h58]
          ·rintro e w' ⟨rfl, rfl⟩
           exact ⟨_, rfl, _, rfl, rfl, Below.refl _ _, hG⟩
         ·intro a W hG hR hO hp; have h59 : slotOf a 59 = .bool true := hp.1; refine kY (v := .bool false) hG rfl ?_; simp [slotOf] at h59; simp [execOp, go_sem, h59]
         ·intro a W hG hR hO hp; have h39 : slotOf a 39 = .bool false := hp.1; have h60 : slotOf a 60 = .bool false := hp.2.1; refine kY (v := .bool false) hG rfl ?_; simp [slotOf] at h39 h60; simp [execOp, go_sem, h39, h60]
         ·exact fun a W hG _ _ hp => kM 61 rfl hp.1 rfl hG
         ·exact fun a W hG _ hO _ => kM 5 rfl (hO.slot 5 (by kernel_rfl)) rfl hG
         ·intro a W hG hR hO hp; have h63 : slotOf a 63 = .int .i64 i := hp.1; refine kY (v := .bool true) hG rfl ?_; simp [slotOf] at h63; simp [execOp, go_sem, h63, hi0]
         ·exact fun a W hG _ _ hp => kM 64 rfl hp.1 rfl hG
         ·intro a W hG hR hO hp; have h2 := hO.slot 2 (by kernel_rfl); have c0 := keep_cell x0 hG; have c1 := keep_cell x1 hG; have c2 := keep_cell x2 hG; have c3 := keep_cell x3 hG; have c4 := keep_cell x4 hG; refine kY (v := smV y) hG rfl ?_; simp [slotOf] at h2; simp [execOp, go_sem, h2, c0, c1, c2, c3, c4]
         ·exact fun a W hG _ hO _ => kM 1 rfl (hO.slot 1 (by kernel_rfl)) rfl hG
         ·exact fun a W hG _ hO _ => kM 5 rfl (hO.slot 5 (by kernel_rfl)) rfl hG
         ·intro a W hG hR hO hp; have h68 : slotOf a 68 = .int .i64 i := hp.1; refine kY (v := .int .i64 j) hG rfl ?_; simp [slotOf] at h68; simp [execOp, go_sem, h68, hij]
         ·intro a W hG hR hO hp; have h67 : slotOf a 67 = .slice (some ⟨fb, fo, none⟩) f.length fc := hp.1; have h69 : slotOf a 69 = .int .i64 j := hp.2.1; refine kY (v := .pointer (some ⟨fb, fo + j * 2, none⟩)) hG rfl ?_; simp [slotOf] at h67 h69; simp [execOp, go_sem, h67, h69, hjf]
         ·intro a W hG hR hO hp; have h70 : slotOf a 70 = .pointer (some ⟨fb, fo + j * 2, none⟩) := hp.1; have c0 := keep_cell o0 hG; have c1 := keep_cell o1 hG; refine kY (v := mvV o) hG rfl ?_; simp [slotOf] at h70; simp [execOp, go_sem, h70, c0, c1]
         ·exact fun a W hG _ hO _ => kM 1 rfl (hO.slot 1 (by kernel_rfl)) rfl hG
         ·exact fun a W hG _ hO _ => kM 5 rfl (hO.slot 5 (by kernel_rfl)) rfl hG
         ·intro a W hG hR hO hp; have h72 : slotOf a 72 = .slice (some ⟨fb, fo, none⟩) f.length fc := hp.1; have h73 : slotOf a 73 = .int .i64 i := hp.2.1; refine kY (v := .pointer (some ⟨fb, fo + i * 2, none⟩)) hG rfl ?_; simp [slotOf] at h72 h73; simp [execOp, go_sem, h72, h73, hif]
         ·intro a W hG hR hO hp; have h74 : slotOf a 74 = .pointer (some ⟨fb, fo + i * 2, none⟩) := hp.1; have c0 := keep_cell m0 hG; have c1 := keep_cell m1 hG; refine kY (v := mvV m) hG rfl ?_; simp [slotOf] at h74; simp [execOp, go_sem, h74, c0, c1]
         ·intro a W hG hR hO hp
          have h66 : slotOf a 66 = smV y := hp.1
          have h71 : slotOf a 71 = mvV o := hp.2.1
          have h75 : slotOf a 75 = mvV m := hp.2.2.1
          refine wp_enters (f := 69) (args := #[smV y, mvV o, mvV m]) ?_ ((HNR.out W).mono ?_)
          ·simp [slotOf] at h66 h71 h75
           simp [go_sem, h66, h71, h75]
          ·rintro e w' ⟨rfl, hb⟩
           exact ⟨_, rfl, _, rfl, rfl, hb, below_next hG hb⟩
         ·intro a W hG hR hO hp; have h76 : slotOf a 76 = .bool false := hp.1; refine kY (v := .bool true) hG rfl ?_; simp [slotOf] at h76; simp [execOp, go_sem, h76]
         ·intro a W hG hR hO hp; have h65 : slotOf a 65 = .bool true := hp.1; have h77 : slotOf a 77 = .bool true := hp.2.1; refine kY (v := .bool true) hG rfl ?_; simp [slotOf] at h65 h77; simp [execOp, go_sem, h65, h77]
        ·intro w5 hG hR
         rintro _ rfl _ rfl _ rfl _ rfl _ rfl _ rfl _ rfl _ rfl _ rfl _ rfl _ rfl _ rfl _ rfl _ rfl _ rfl _ rfl _ rfl _ rfl _ rfl _ rfl _ rfl _ rfl _ rfl _ rfl _ rfl _ rfl _ rfl _ rfl _ rfl _ rfl _ rfl _ rfl _ rfl _ rfl _ rfl _ rfl _ rfl _ rfl _ rfl _ rfl _ rfl _ rfl _ rfl _ rfl _ rfl _ rfl _ rfl _ rfl _ rfl _ rfl _ rfl _ rfl _ rfl _ rfl _ rfl _ rfl _ rfl _ rfl _ rfl _ rfl _ rfl
         change wpList _ _ _ _ _ _
         simp only [Act.put, List.setIfInBounds_toArray, List.set_cons_zero, List.set_cons_succ, List.drop_succ_cons, List.drop_zero]
         have HE4 := Lib.hid (newer_trans HJ.out.2.1 hG)
         clear hG hR hfr m0 m1 p0 p1 p2 p3 x0 x1 x2 x3 x4 z0 o0 o1
         go_wp2_with fail
         go_ret
         exact ⟨ret_bool HR.out.symm, HE4.out⟩
       | true =>
        have HG2 := Lib.hid (HGO.out HNE.out)
        go_upto_region 6 with fail
        refine wp_words (by kernel_rfl) (region_told_u 61 (by kernel_rfl) (by kernel_rfl) [false, false, false, false, false, false, false, false, false, false, false, false, false, false, false, false, false, false, false, false, false, false, false, false, false, false, false, false, false, false, false, false, false, false, false, false, false, false, false, false, false, false, false, false, false, false, false, false, false, false, false, false, false, false, false, false, false, false, false, false, false] (fun W => Below w4.heap.size w4 W) newer [vIs (.slice (some ⟨fb, fo, none⟩) f.length fc), vIs (.int .i64 i), vIs (.pointer (some ⟨fb, fo + i * 2, none⟩)), vIs (.pointer (some ⟨fb, fo + i * 2, none⟩)), vIs (vi m.1), vIs (.pointer (some ⟨w.heap.size, 0, none⟩)), vIs (.slice (some ⟨sb, so, none⟩) y.s.spots.length y.sc), vIs (.int .i64 i), vIs (.pointer (some ⟨sb, so + i * 4, none⟩)), vIs (.pointer (some ⟨sb, so + i * 4, none⟩)), vIs (.pointer (some ⟨sb, so + i * 4, none⟩)), vIs (vi p.x.lo), vIs (.pointer (some ⟨w.heap.size, 0, none⟩)), vIs (.slice (some ⟨sb, so, none⟩) y.s.spots.length y.sc), vIs (.int .i64 i), vIs (.pointer (some ⟨sb, so + i * 4, none⟩)), vIs (.pointer (some ⟨sb, so + i * 4, none⟩)), vIs (.pointer (some ⟨sb, so + i * 4 + 1, none⟩)), vIs (vi p.x.hi), vIs (.bool true), vIs (.bool false), vIs (.bool false), vIs (.slice (some ⟨fb, fo, none⟩) f.length fc), vIs (.int .i64 i), vIs (.pointer (some ⟨fb, fo + i * 2, none⟩)), vIs (.pointer (some ⟨fb, fo + i * 2 + 1, none⟩)), vIs (vi m.2), vIs (.pointer (some ⟨w.heap.size, 0, none⟩)), vIs (.slice (some ⟨sb, so, none⟩) y.s.spots.length y.sc), vIs (.int .i64 i), vIs (.pointer (some ⟨sb, so + i * 4, none⟩)), vIs (.pointer (some ⟨sb, so + i * 4 + 2, none⟩)), vIs (.pointer (some ⟨sb, so + i * 4 + 2, none⟩)), vIs (vi p.y.lo), vIs (.pointer (some ⟨w.heap.size, 0, none⟩)), vIs (.slice (some ⟨sb, so, none⟩) y.s.spots.length y.sc), vIs (.int .i64 i), vIs (.pointer (some ⟨sb, so + i * 4, none⟩)), vIs (.pointer (some ⟨sb, so + i * 4 + 2, none⟩)), vIs (.pointer (some ⟨sb, so + i * 4 + 3, none⟩)), vIs (vi p.y.hi), vIs (.bool true), vIs (.bool false), vIs (.bool false), vIs (.bool false), vIs (.int .i64 i), vIs (.bool true), vIs (.bool true), vIs (smV y), vIs (.slice (some ⟨fb, fo, none⟩) f.length fc), vIs (.int .i64 i), vIs (.int .i64 j), vIs (.pointer (some ⟨fb, fo + j * 2, none⟩)), vIs (mvV o), vIs (.slice (some ⟨fb, fo, none⟩) f.length fc), vIs (.int .i64 i), vIs (.pointer (some ⟨fb, fo + i * 2, none⟩)), vIs (mvV m), vIs (.bool true), vIs (.bool false), vIs (.bool false)] (by repeat' first | refine And.intro ?_ ?_ | exact trivial | exact rfl | (intro v W h; obtain rfl : v = _ := h; first | rfl | (simp; done) | (simp [undef]; done))) (by repeat' first | refine And.intro ?_ ?_ | exact trivial | exact (fun h => Bool.noConfusion (show false = true from h)) | exact (fun _ _ => rfl)) (fun h k => newer_trans h k) (pickD_stable _ (by repeat' first | refine And.intro ?_ ?_ | exact trivial | exact vIs_st)) (Below.refl _ w4).drew (Below.refl _ _) ?_ ?_)
        ·refine ⟨.inr ?_, .inr ?_, .inr ?_, .inr ?_, .inr ?_, .inr ?_, .inr ?_, .inr ?_, .inr ?_, .inr ?_, .inr ?_, .inr ?_, .inr ?_, .inr ?_, .inr ?_, .inr ?_, .inr ?_, .inr ?_, .inr ?_, .inr ?_, .inr ?_, .inr ?_, .inr ?_, .inr ?_, .inr ?_, .inr ?_, .inr ?_, .inr ?_, .inr ?_, .inr ?_, .inr ?_, .inr ?_, .inr ?_, .inr ?_, .inr ?_, .inr ?_, .inr ?_, .inr ?_, .inr ?_, .inr ?_, .inr ?_, .inr ?_, .inr ?_, .inr ?_, .inr ?_, .inr ?_, .inr ?_, .inr ?_, .inr ?_, .inr ?_, .inr ?_, .inr ?_, .inr ?_, .inr ?_, .inr ?_, .inr ?_, .inr ?_, .inr ?_, .inr ?_, .inr ?_, .inr ?_, trivial⟩
         ·exact fun a W hG _ hO _ => kM 1 rfl (hO.slot 1 (by kernel_rfl)) rfl hG
         ·exact fun a W hG _ hO _ => kM 5 rfl (hO.slot 5 (by kernel_rfl)) rfl hG
         ·intro a W hG hR hO hp; have h18 : slotOf a 18 = .slice (some ⟨fb, fo, none⟩) f.length fc := hp.1; have h19 : slotOf a 19 = .int .i64 i := hp.2.1; refine kY (v := .pointer (some ⟨fb, fo + i * 2, none⟩)) hG rfl ?_; simp [slotOf] at h18 h19; simp [execOp, go_sem, h18, h19, hif]
         ·intro a W hG hR hO hp; have h20 : slotOf a 20 = .pointer (some ⟨fb, fo + i * 2, none⟩) := hp.1; refine kY (v := .pointer (some ⟨fb, fo + i * 2, none⟩)) hG rfl ?_; simp [slotOf] at h20; simp [execOp, go_sem, h20]
         ·intro a W hG hR hO hp; have h21 : slotOf a 21 = .pointer (some ⟨fb, fo + i * 2, none⟩) := hp.1; have c0 := keep_cell m0 hG; refine kY (v := vi m.1) hG rfl ?_; simp [slotOf] at h21; simp [execOp, go_sem, h21, c0]
         ·intro a W hG hR hO hp; have h2 := hO.slot 2 (by kernel_rfl); refine kY (v := .pointer (some ⟨w.heap.size, 0, none⟩)) hG rfl ?_; simp [slotOf] at h2; simp [execOp, go_sem, h2]
         ·intro a W hG hR hO hp; have h23 : slotOf a 23 = .pointer (some ⟨w.heap.size, 0, none⟩) := hp.1; have c0 := keep_cell z0 hG; refine kY (v := .slice (some ⟨sb, so, none⟩) y.s.spots.length y.sc) hG rfl ?_; simp [slotOf] at h23; simp [execOp, go_sem, h23, c0]
         ·exact fun a W hG _ hO _ => kM 5 rfl (hO.slot 5 (by kernel_rfl)) rfl hG
         ·intro a W hG hR hO hp; have h24 : slotOf a 24 = .slice (some ⟨sb, so, none⟩) y.s.spots.length y.sc := hp.1; have h25 : slotOf a 25 = .int .i64 i := hp.2.1; refine kY (v := .pointer (some ⟨sb, so + i * 4, none⟩)) hG rfl ?_; simp [slotOf] at h24 h25; simp [execOp, go_sem, h24, h25, his]
         ·intro a W hG hR hO hp; have h26 : slotOf a 26 = .pointer (some ⟨sb, so + i * 4, none⟩) := hp.1; refine kY (v := .pointer (some ⟨sb, so + i * 4, none⟩)) hG rfl ?_; simp [slotOf] at h26; simp [execOp, go_sem, h26]
         ·intro a W hG hR hO hp; have h27 : slotOf a 27 = .pointer (some ⟨sb, so + i * 4, none⟩) := hp.1; refine kY (v := .pointer (some ⟨sb, so + i * 4, none⟩)) hG rfl ?_; simp [slotOf] at h27; simp [execOp, go_sem, h27]
         ·intro a W hG hR hO hp; have h28 : slotOf a 28 = .pointer (some ⟨sb, so + i * 4, none⟩) := hp.1; have c0 := keep_cell p0 hG; refine kY (v := vi p.x.lo) hG rfl ?_; simp [slotOf] at h28; simp [execOp, go_sem, h28, c0]
         ·intro a W hG hR hO hp; have h2 := hO.slot 2 (by kernel_rfl); refine kY (v := .pointer (some ⟨w.heap.size, 0, none⟩)) hG rfl ?_; simp [slotOf] at h2; simp [execOp, go_sem, h2]
         ·intro a W hG hR hO hp; have h30 : slotOf a 30 = .pointer (some ⟨w.heap.size, 0, none⟩) := hp.1; have c0 := keep_cell z0 hG; refine kY (v := .slice (some ⟨sb, so, none⟩) y.s.spots.length y.sc) hG rfl ?_; simp [slotOf] at h30; simp [execOp, go_sem, h30, c0]
         ·exact fun a W hG _ hO _ => kM 5 rfl (hO.slot 5 (by kernel_rfl)) rfl hG
         ·intro a W hG hR hO hp; have h31 : slotOf a 31 = .slice (some ⟨sb, so, none⟩) y.s.spots.length y.sc := hp.1; have h32 : slotOf a 32 = .int .i64 i := hp.2.1; refine kY (v := .pointer (some ⟨sb, so + i * 4, none⟩)) hG rfl ?_; simp [slotOf] at h31 h32; simp [execOp, go_sem, h31, h32, his]
         ·intro a W hG hR hO hp; have h33 : slotOf a 33 = .pointer (some ⟨sb, so + i * 4, none⟩) := hp.1; refine kY (v := .pointer (some ⟨sb, so + i * 4, none⟩)) hG rfl ?_; simp [slotOf] at h33; simp [execOp, go_sem, h33]
         ·intro a W hG hR hO hp; have h34 : slotOf a 34 = .pointer (some ⟨sb, so + i * 4, none⟩) := hp.1; refine kY (v := .pointer (some ⟨sb, so + i * 4 + 1, none⟩)) hG rfl ?_; simp [slotOf] at h34; simp [execOp, go_sem, h34]
         ·intro a W hG hR hO hp; have h35 : slotOf a 35 = .pointer (some ⟨sb, so + i * 4 + 1, none⟩) := hp.1; have c0 := keep_cell p1 hG; refine kY (v := vi p.x.hi) hG rfl ?_; simp [slotOf] at h35; simp [execOp, go_sem, h35, c0]
         ·intro a W hG hR hO hp
          have h22 : slotOf a 22 = vi m.1 := hp.1
          have h29 : slotOf a 29 = vi p.x.lo := hp.2.1
          have h36 : slotOf a 36 = vi p.x.hi := hp.2.2.1
          refine wp_enters (f := 25) (args := #[vi m.1, vi p.x.lo, vi p.x.hi]) ?_ ((HW1.out W).mono ?_)
          ·simp [slotOf] at h22 h29 h36
           simp [go_sem, h22, h29, h36]
          ·rintro e w' ⟨rfl, rfl⟩
           exact ⟨_, rfl, _, rfl, rfl, Below.refl _ _, hG⟩
         ·intro a W hG hR hO hp; have h37 : slotOf a 37 = .bool true := hp.1; refine kY (v := .bool false) hG rfl ?_; simp [slotOf] at h37; simp [execOp, go_sem, h37]
         ·exact fun a W hG _ _ hp => kM 38 rfl hp.1 rfl hG
         ·exact fun a W hG _ hO _ => kM 1 rfl (hO.slot 1 (by kernel_rfl)) rfl hG
         ·exact fun a W hG _ hO _ => kM 5 rfl (hO.slot 5 (by kernel_rfl)) rfl hG
         ·intro a W hG hR hO hp; have h40 : slotOf a 40 = .slice (some ⟨fb, fo, none⟩) f.length fc := hp.1; have h41 : slotOf a 41 = .int .i64 i := hp.2.1; refine kY (v := .pointer (some ⟨fb, fo + i * 2, none⟩)) hG rfl ?_; simp [slotOf] at h40 h41; simp [execOp, go_sem, h40, h41, hif]
         ·intro a W hG hR hO hp; have h42 : slotOf a 42 = .pointer (some ⟨fb, fo + i * 2, none⟩) := hp.1; refine kY (v := .pointer (some ⟨fb, fo + i * 2 + 1, none⟩)) hG rfl ?_; simp [slotOf] at h42; simp [execOp, go_sem, h42]
         ·intro a W hG hR hO hp; have h43 : slotOf a 43 = .pointer (some ⟨fb, fo + i * 2 + 1, none⟩) := hp.1; have c0 := keep_cell m1 hG; refine kY (v := vi m.2) hG rfl ?_; simp [slotOf] at h43; simp [execOp, go_sem, h43, c0]
         ·intro a W hG hR hO hp; have h2 := hO.slot 2 (by kernel_rfl); refine kY (v := .pointer (some ⟨w.heap.size, 0, none⟩)) hG rfl ?_; simp [slotOf] at h2; simp [execOp, go_sem, h2]
         ·intro a W hG hR hO hp; have h45 : slotOf a 45 = .pointer (some ⟨w.heap.size, 0, none⟩) := hp.1; have c0 := keep_cell z0 hG; refine kY (v := .slice (some ⟨sb, so, none⟩) y.s.spots.length y.sc) hG rfl ?_; simp [slotOf] at h45; simp [execOp, go_sem, h45, c0]
         ·exact fun a W hG _ hO _ => kM 5 rfl (hO.slot 5 (by kernel_rfl)) rfl hG
         ·intro a W hG hR hO hp; have h46 : slotOf a 46 = .slice (some ⟨sb, so, none⟩) y.s.spots.length y.sc := hp.1; have h47 : slotOf a 47 = .int .i64 i := hp.2.1; refine kY (v := .pointer (some ⟨sb, so + i * 4, none⟩)) hG rfl ?_; simp [slotOf] at h46 h47; simp [execOp, go_sem, h46, h47, his]
         ·intro a W hG hR hO hp; have h48 : slotOf a 48 = .pointer (some ⟨sb, so + i * 4, none⟩) := hp.1; refine kY (v := .pointer (some ⟨sb, so + i * 4 + 2, none⟩)) hG rfl ?_; simp [slotOf] at h48; simp [execOp, go_sem, h48]
         ·intro a W hG hR hO hp; have h49 : slotOf a 49 = .pointer (some ⟨sb, so + i * 4 + 2, none⟩) := hp.1; refine kY (v := .pointer (some ⟨sb, so + i * 4 + 2, none⟩)) hG rfl ?_; simp [slotOf] at h49; simp [execOp, go_sem, h49]
         ·intro a W hG hR hO hp; have h50 : slotOf a 50 = .pointer (some ⟨sb, so + i * 4 + 2, none⟩) := hp.1; have c0 := keep_cell p2 hG; refine kY (v := vi p.y.lo) hG rfl ?_; simp [slotOf] at h50; simp [execOp, go_sem, h50, c0]
         ·intro a W hG hR hO hp; have h2 := hO.slot 2 (by kernel_rfl); refine kY (v := .pointer (some ⟨w.heap.size, 0, none⟩)) hG rfl ?_; simp [slotOf] at h2; simp [execOp, go_sem, h2]
         ·intro a W hG hR hO hp; have h52 : slotOf a 52 = .pointer (some ⟨w.heap.size, 0, none⟩) := hp.1; have c0 := keep_cell z0 hG; refine kY (v := .slice (some ⟨sb, so, none⟩) y.s.spots.length y.sc) hG rfl ?_; simp [slotOf] at h52; simp [execOp, go_sem, h52, c0]
         ·exact fun a W hG _ hO _ => kM 5 rfl (hO.slot 5 (by kernel_rfl)) rfl hG
         ·intro a W hG hR hO hp; have h53 : slotOf a 53 = .slice (some ⟨sb, so, none⟩) y.s.spots.length y.sc := hp.1; have h54 : slotOf a 54 = .int .i64 i := hp.2.1; refine kY (v := .pointer (some ⟨sb, so + i * 4, none⟩)) hG rfl ?_; simp [slotOf] at h53 h54; simp [execOp, go_sem, h53, h54, his]
         ·intro a W hG hR hO hp; have h55 : slotOf a 55 = .pointer (some ⟨sb, so + i * 4, none⟩) := hp.1; refine kY (v := .pointer (some ⟨sb, so + i * 4 + 2, none⟩)) hG rfl ?_; simp [slotOf] at h55; simp [execOp, go_sem, h55]
         ·intro a W hG hR hO hp; have h56 : slotOf a 56 = .pointer (some ⟨sb, so + i * 4 + 2, none⟩) := hp.1; refine kY (v := .pointer (some ⟨sb, so + i * 4 + 3, none⟩)) hG rfl ?_; simp [slotOf] at h56; simp [execOp, go_sem, h56]
         ·intro a W hG hR hO hp; have h57 : slotOf a 57 = .pointer (some ⟨sb, so + i * 4 + 3, none⟩) := hp.1; have c0 := keep_cell p3 hG; refine kY (v := vi p.y.hi) hG rfl ?_; simp [slotOf] at h57; simp [execOp, go_sem, h57, c0]
         ·intro a W hG hR hO hp
          have h44 : slotOf a 44 = vi m.2 := hp.1
          have h51 : slotOf a 51 = vi p.y.lo := hp.2.1
          have h58 : slotOf a 58 = vi p.y.hi := hp.2.2.1
          refine wp_enters (f := 25) (args := #[vi m.2, vi p.y.lo, vi p.y.hi]) ?_ ((HW2.out W).mono ?_)
          ·simp [slotOf] at h44 h51 h58
           simp [go_sem, h44, h51, h58]
          ·rintro e w' ⟨rfl, rfl⟩
           exact ⟨_, rfl, _, rfl, rfl, Below.refl _ _, hG⟩
         ·intro a W hG hR hO hp; have h59 : slotOf a 59 = .bool true := hp.1; refine kY (v := .bool false) hG rfl ?_; simp [slotOf] at h59; simp [execOp, go_sem, h59]
         ·intro a W hG hR hO hp; have h39 : slotOf a 39 = .bool false := hp.1; have h60 : slotOf a 60 = .bool false := hp.2.1; refine kY (v := .bool false) hG rfl ?_; simp [slotOf] at h39 h60; simp [execOp, go_sem, h39, h60]
         ·exact fun a W hG _ _ hp => kM 61 rfl hp.1 rfl hG
         ·exact fun a W hG _ hO _ => kM 5 rfl (hO.slot 5 (by kernel_rfl)) rfl hG
         ·intro a W hG hR hO hp; have h63 : slotOf a 63 = .int .i64 i := hp.1; refine kY (v := .bool true) hG rfl ?_; simp [slotOf] at h63; simp [execOp, go_sem, h63, hi0]
         ·exact fun a W hG _ _ hp => kM 64 rfl hp.1 rfl hG
         ·intro a W hG hR hO hp; have h2 := hO.slot 2 (by kernel_rfl); have c0 := keep_cell x0 hG; have c1 := keep_cell x1 hG; have c2 := keep_cell x2 hG; have c3 := keep_cell x3 hG; have c4 := keep_cell x4 hG; refine kY (v := smV y) hG rfl ?_; simp [slotOf] at h2; simp [execOp, go_sem, h2, c0, c1, c2, c3, c4]
         ·exact fun a W hG _ hO _ => kM 1 rfl (hO.slot 1 (by kernel_rfl)) rfl hG
         ·exact fun a W hG _ hO _ => kM 5 rfl (hO.slot 5 (by kernel_rfl)) rfl hG
         ·intro a W hG hR hO hp; have h68 : slotOf a 68 = .int .i64 i := hp.1; refine kY (v := .int .i64 j) hG rfl ?_; simp [slotOf] at h68; simp [execOp, go_sem, h68, hij]
         ·intro a W hG hR hO hp; have h67 : slotOf a 67 = .slice (some ⟨fb, fo, none⟩) f.length fc := hp.1; have h69 : slotOf a 69 = .int .i64 j := hp.2.1; refine kY (v := .pointer (some ⟨fb, fo + j * 2, none⟩)) hG rfl ?_; simp [slotOf] at h67 h69; simp [execOp, go_sem, h67, h69, hjf]
         ·intro a W hG hR hO hp; have h70 : slotOf a 70 = .pointer (some ⟨fb, fo + j * 2, none⟩) := hp.1; have c0 := keep_cell o0 hG; have c1 := keep_cell o1 hG; refine kY (v := mvV o) hG rfl ?_; simp [slotOf] at h70; simp [execOp, go_sem, h70, c0, c1]
         ·exact fun a W hG _ hO _ => kM 1 rfl (hO.slot 1 (by kernel_rfl)) rfl hG
         ·exact fun a W hG _ hO _ => kM 5 rfl (hO.slot 5 (by kernel_rfl)) rfl hG
         ·intro a W hG hR hO hp; have h72 : slotOf a 72 = .slice (some ⟨fb, fo, none⟩) f.length fc := hp.1; have h73 : slotOf a 73 = .int .i64 i := hp.2.1; refine kY (v := .pointer (some ⟨fb, fo + i * 2, none⟩)) hG rfl ?_; simp [slotOf] at h72 h73; simp [execOp, go_sem, h72, h73, hif]
         ·intro a W hG hR hO hp; have h74 : slotOf a 74 = .pointer (some ⟨fb, fo + i * 2, none⟩) := hp.1; have c0 := keep_cell m0 hG; have c1 := keep_cell m1 hG; refine kY (v := mvV m) hG rfl ?_; simp [slotOf] at h74; simp [execOp, go_sem, h74, c0, c1]
         ·intro a W hG hR hO hp
          have h66 : slotOf a 66 = smV y := hp.1
          have h71 : slotOf a 71 = mvV o := hp.2.1
          have h75 : slotOf a 75 = mvV m := hp.2.2.1
          refine wp_enters (f := 69) (args := #[smV y, mvV o, mvV m]) ?_ ((HNR.out W).mono ?_)
          ·simp [slotOf] at h66 h71 h75
           simp [go_sem, h66, h71, h75]
          ·rintro e w' ⟨rfl, hb⟩
           exact ⟨_, rfl, _, rfl, rfl, hb, below_next hG hb⟩
         ·intro a W hG hR hO hp; have h76 : slotOf a 76 = .bool true := hp.1; refine kY (v := .bool false) hG rfl ?_; simp [slotOf] at h76; simp [execOp, go_sem, h76]
         ·intro a W hG hR hO hp; have h65 : slotOf a 65 = .bool true := hp.1; have h77 : slotOf a 77 = .bool false := hp.2.1; refine kY (v := .bool false) hG rfl ?_; simp [slotOf] at h65 h77; simp [execOp, go_sem, h65, h77]
        ·intro w5 hG hR
         rintro _ rfl _ rfl _ rfl _ rfl _ rfl _ rfl _ rfl _ rfl _ rfl _ rfl _ rfl _ rfl _ rfl _ rfl _ rfl _ rfl _ rfl _ rfl _ rfl _ rfl _ rfl _ rfl _ rfl _ rfl _ rfl _ rfl _ rfl _ rfl _ rfl _ rfl _ rfl _ rfl _ rfl _ rfl _ rfl _ rfl _ rfl _ rfl _ rfl _ rfl _ rfl _ rfl _ rfl _ rfl _ rfl _ rfl _ rfl _ rfl _ rfl _ rfl _ rfl _ rfl _ rfl _ rfl _ rfl _ rfl _ rfl _ rfl _ rfl _ rfl _ rfl
         change wpList _ _ _ _ _ _
         simp only [Act.put, List.setIfInBounds_toArray, List.set_cons_zero, List.set_cons_succ, List.drop_succ_cons, List.drop_zero]
         have HE4 := Lib.hid (show newer w w5 ∧ Whole w5 w.heap.size 26 (smC y) from ⟨newer_trans HJ.out.2.1 hG, HJ.out.2.2.below hG HJ.out.2.2.lt⟩)
         clear hG hR hfr m0 m1 p0 p1 p2 p3 x0 x1 x2 x3 x4 z0 o0 o1
         go_wp2_with fail
         go_roundw
         case rel => exact ⟨i + 1, by omega, by go_num, HG2.out, HE4.out.1, HE4.out.2⟩
         case measure => simp [intOf]; omega
theorem waysB_all {s : Sd} {f : List Mv} : waysB s f = (List.range s.tools.length).all fun j => match s.tools[j]? with
 | some t => !(waysN s j t (fnL f t.spot.toNat)).isEmpty
 | none => true := rfl
set_option maxRecDepth 100000 in
set_option maxHeartbeats 4000000 in
theorem agreesR_any (y : Sm) (f : List Mv) (fa : Option Addr) (fc : Nat) (w : World) (hok : SmOk y w) (hs : SdOk y.s) (hf : Row mvL 2 w w.heap.size fa f) (hfl : f.length ≤ 1000) :
  Calls Try.prog 46 #[smV y, .slice fa f.length fc] w fun e w' => e = .returned (.bool (agreesB y.s f)) ∧ newer w w' := by
 have hnw := newer_allocH w (.cells (smC y) 26)
 have hbx := Whole.made w 26 (smC y)
 have HI := Lib.hid (isField_any y f fa fc _ (hok.next hnw) hs ((hf.below hnw).more hnw.size) hfl)
 have x0 := hbx.at 0 (v := .slice y.sa y.s.spots.length y.sc) rfl
 have x1 := hbx.at 1 (v := vi y.s.strain) rfl
 have x2 := hbx.at 2 (v := .slice y.ta y.s.tools.length y.tc) rfl
 have x3 := hbx.at 3 (v := vi y.s.day) rfl
 have x4 := hbx.at 4 (v := .slice y.ra y.s.reads.length y.rc) rfl
 have HB := Lib.hid hbx
 have HN := Lib.hid hnw
 have HOK := Lib.hid hok
 have HF := Lib.hid hf
 have HS := Lib.hid hs
 obtain ⟨res, hres⟩ : ∃ q, q = agreesB y.s f := ⟨_, rfl⟩
 rw [← hres]
 unfold agreesB at hres
 have HRS := Lib.hid hres
 have HIF := Lib.hid (isField_iff (s := y.s) (f := f))
 obtain ⟨isf, hif⟩ : ∃ q, q = isFieldB y.s f := ⟨_, rfl⟩
 rw [← hif] at HI HRS HIF
 clear hnw hbx hok hf hs hres hif
 cases isf with
 | false =>
  have HR := Lib.hid (show res = false by rw [HRS.out]; rfl)
  go_enter Try.func46, Try.ntmps46
  go_wp2_with fail
  refine (HI.out).mono ?_
  rintro e w1 ⟨rfl, hb⟩
  have HE := Lib.hid (newer_trans HN.out hb)
  clear hb
  go_wp2_with fail
  go_ret
  exact ⟨ret_bool HR.out.symm, HE.out⟩
 | true =>
  have HFI := Lib.hid (HIF.out.1 rfl)
  have HRW := Lib.hid (show res = waysB y.s f by rw [HRS.out, Bool.true_and])
  obtain ⟨m0, hm0⟩ : ∃ m, f[0]? = some m := ⟨_, List.getElem?_eq_getElem (by have := HS.out.spots; have := HFI.out.1; omega)⟩
  obtain ⟨fb, fo, ef, -⟩ := row2 HF.out hm0
  subst ef
  clear hm0 m0
  have hn8 := HS.out.few
  go_enter Try.func46, Try.ntmps46
  go_wp2_with fail
  refine (HI.out).mono ?_
  rintro e w1 ⟨rfl, hb⟩
  have HE := Lib.hid (show newer w w1 ∧ Whole w1 w.heap.size 26 (smC y) from ⟨newer_trans HN.out hb, HB.out.below hb HB.out.lt⟩)
  clear hb x0 x1 x2 x3 x4 HI
  go_wp2_with fail
  go_loopw [5] (fun s5 wr => ∃ k : Nat, k ≤ y.s.tools.length ∧ s5 = vi k ∧ (∀ (j : Nat) (t : Tl), j < k → y.s.tools[j]? = some t → (waysN y.s j t (fnL f t.spot.toNat)).isEmpty = false) ∧ newer w wr ∧ Whole wr w.heap.size 26 (smC y)) (fun s5 _ => y.s.tools.length - (intOf s5).toNat)
  case atStart => exact ⟨0, Nat.zero_le _, rfl, fun j t hj => absurd hj (Nat.not_lt_zero _), HE.out.1, HE.out.2⟩
  case round =>
   obtain ⟨k, hk, rfl, hall, hnw, hxb⟩ := hrel
   have HJ := Lib.hid (And.intro hall (And.intro hnw hxb))
   have t2 := hxb.at 2 (v := .slice y.ta y.s.tools.length y.tc) rfl
   clear hall hnw hxb HE
   by_cases hlt : k < y.s.tools.length
   case neg =>
    obtain rfl : k = y.s.tools.length := by omega
    have HR := Lib.hid (show res = true by
     rw [HRW.out, waysB_all]
     refine all_range_ok fun j hj => ?_
     cases ht : y.s.tools[j]? with
     | none => rfl
     | some t => simp only [HJ.out.1 j t hj ht, Bool.not_false])
    go_wp2_with fail
    go_ret
    exact ⟨ret_bool HR.out.symm, HJ.out.2.1⟩
   case pos =>
    obtain ⟨t, ht⟩ : ∃ t, y.s.tools[k]? = some t := ⟨_, List.getElem?_eq_getElem hlt⟩
    have htl := HS.out.tool t (List.mem_of_getElem? ht)
    obtain ⟨sp, hsp⟩ : ∃ q : Nat, t.spot = q := ⟨t.spot.toNat, by have := htl.spot; omega⟩
    have hsf : (sp : Int) < f.length := by have := htl.spot; have := HFI.out.1; omega
    obtain ⟨m, hm⟩ : ∃ m, f[sp]? = some m := ⟨_, List.getElem?_eq_getElem (by omega)⟩
    have hmb := HFI.out.2.bd HS.out (i := sp) (by have := HFI.out.1; omega)
    rw [fnL_at hm] at hmb
    have hkt : (k : Int) < y.s.tools.length := by omega
    obtain ⟨w4, hw4⟩ : ∃ w4 : World, w4 = wr := ⟨_, rfl⟩
    rw [← hw4] at t2 HJ ⊢
    clear hw4
    have x0 := HJ.out.2.2.at 0 (v := .slice y.sa y.s.spots.length y.sc) rfl
    have x1 := HJ.out.2.2.at 1 (v := vi y.s.strain) rfl
    have x2 := HJ.out.2.2.at 2 (v := .slice y.ta y.s.tools.length y.tc) rfl
    have x3 := HJ.out.2.2.at 3 (v := vi y.s.day) rfl
    have x4 := HJ.out.2.2.at 4 (v := .slice y.ra y.s.reads.length y.rc) rfl
    obtain ⟨tb, tf, et, htb, t0_, -⟩ := row7 (HOK.out.next HJ.out.2.1).tl ht
    rw [et] at t2
    rw [hsp] at t0_
    obtain ⟨m0, m1⟩ := mv_at ((HF.out.below HJ.out.2.1).more HJ.out.2.1.size) hm
    have HWY := Lib.hid (fun W (hG : newer w4 W) => ways_any y k t m W (HOK.out.next (newer_trans HJ.out.2.1 hG)) HS.out ht hmb.1 hmb.2)
    obtain ⟨L, hL⟩ : ∃ q, q = waysN y.s k t m := ⟨_, rfl⟩
    rw [← hL] at HWY
    have HT := Lib.hid (show y.s.tools[k]? = some t ∧ waysN y.s k t (fnL f t.spot.toNat) = L from ⟨ht, by rw [hsp, Int.toNat_natCast, fnL_at hm, hL]⟩)
    clear et htb ht htl hsp hm hmb hL
    go_upto_region 6 with fail
    refine wp_words (by kernel_rfl) (region_told 13 (by kernel_rfl) (by kernel_rfl) (fun W => Below w4.heap.size w4 W) newer (pickD [vIs (smV y), vIs (.int .i64 k), vIs (.slice (some ⟨fb, fo, none⟩) f.length fc), vIs (.pointer (some ⟨w.heap.size, 2, none⟩)), vIs (.slice (some ⟨tb, tf, none⟩) y.s.tools.length y.tc), vIs (.int .i64 k), vIs (.pointer (some ⟨tb, tf + k * 7, none⟩)), vIs (.pointer (some ⟨tb, tf + k * 7, none⟩)), vIs (.int .i64 sp), vIs (.pointer (some ⟨fb, fo + sp * 2, none⟩)), vIs (mvV m), vLen L.length, vIs (.int .i64 L.length)]) (fun h k => newer_trans h k) (pickD_stable _ ⟨vIs_st, vIs_st, vIs_st, vIs_st, vIs_st, vIs_st, vIs_st, vIs_st, vIs_st, vIs_st, vIs_st, vLen_st, vIs_st, trivial⟩) (Below.refl _ w4).drew (Below.refl _ _) ?_ ?_)
    ·refine ⟨?_, ?_, ?_, ?_, ?_, ?_, ?_, ?_, ?_, ?_, ?_, ?_, ?_, trivial⟩
     ·intro a W hG hR hO hp; have h2 := hO.slot 2 (by kernel_rfl); have c0 := keep_cell x0 hG; have c1 := keep_cell x1 hG; have c2 := keep_cell x2 hG; have c3 := keep_cell x3 hG; have c4 := keep_cell x4 hG; refine kY (v := smV y) hG rfl ?_; simp [slotOf] at h2; simp [execOp, go_sem, h2, c0, c1, c2, c3, c4]
     ·exact fun a W hG _ hO _ => kM 5 rfl (hO.slot 5 (by kernel_rfl)) rfl hG
     ·exact fun a W hG _ hO _ => kM 1 rfl (hO.slot 1 (by kernel_rfl)) rfl hG
     ·intro a W hG hR hO hp; have h2 := hO.slot 2 (by kernel_rfl); refine kY (v := .pointer (some ⟨w.heap.size, 2, none⟩)) hG rfl ?_; simp [slotOf] at h2; simp [execOp, go_sem, h2]
     ·intro a W hG hR hO hp; have h20 : slotOf a 20 = .pointer (some ⟨w.heap.size, 2, none⟩) := hp.1; have c0 := keep_cell t2 hG; refine kY (v := .slice (some ⟨tb, tf, none⟩) y.s.tools.length y.tc) hG rfl ?_; simp [slotOf] at h20; simp [execOp, go_sem, h20, c0]
     ·exact fun a W hG _ hO _ => kM 5 rfl (hO.slot 5 (by kernel_rfl)) rfl hG
     ·intro a W hG hR hO hp; have h21 : slotOf a 21 = .slice (some ⟨tb, tf, none⟩) y.s.tools.length y.tc := hp.1; have h22 : slotOf a 22 = .int .i64 k := hp.2.1; refine kY (v := .pointer (some ⟨tb, tf + k * 7, none⟩)) hG rfl ?_; simp [slotOf] at h21 h22; simp [execOp, go_sem, h21, h22, hkt]
     ·intro a W hG hR hO hp; have h23 : slotOf a 23 = .pointer (some ⟨tb, tf + k * 7, none⟩) := hp.1; refine kY (v := .pointer (some ⟨tb, tf + k * 7, none⟩)) hG rfl ?_; simp [slotOf] at h23; simp [execOp, go_sem, h23]
     ·intro a W hG hR hO hp; have h24 : slotOf a 24 = .pointer (some ⟨tb, tf + k * 7, none⟩) := hp.1; have c0 := keep_cell t0_ hG; refine kY (v := .int .i64 sp) hG rfl ?_; simp [slotOf] at h24; simp [execOp, go_sem, h24, c0]
     ·intro a W hG hR hO hp; have h19 : slotOf a 19 = .slice (some ⟨fb, fo, none⟩) f.length fc := hp.1; have h25 : slotOf a 25 = .int .i64 sp := hp.2.1; refine kY (v := .pointer (some ⟨fb, fo + sp * 2, none⟩)) hG rfl ?_; simp [slotOf] at h19 h25; simp [execOp, go_sem, h19, h25, hsf]
     ·intro a W hG hR hO hp; have h26 : slotOf a 26 = .pointer (some ⟨fb, fo + sp * 2, none⟩) := hp.1; have c0 := keep_cell m0 hG; have c1 := keep_cell m1 hG; refine kY (v := mvV m) hG rfl ?_; simp [slotOf] at h26; simp [execOp, go_sem, h26, c0, c1]
     ·intro a W hG hR hO hp
      have h17 : slotOf a 17 = smV y := hp.1
      have h18 : slotOf a 18 = .int .i64 k := hp.2.1
      have h27 : slotOf a 27 = mvV m := hp.2.2.1
      refine wp_enters (f := 78) (args := #[smV y, vi k, mvV m]) ?_ ((HWY.out W hG).mono ?_)
      ·simp [slotOf] at h17 h18 h27
       simp [go_sem, h17, h18, h27]
      ·rintro e w' ⟨B, d, rfl, h1, h2⟩
       exact ⟨_, rfl, _, rfl, ⟨B, d, rfl⟩, h2, below_next hG h2⟩
     ·intro a W hG hR hO hp; have h28 := hp.1; obtain ⟨B, d, h28⟩ := h28; refine wp_yields (v := .int .i64 L.length) ?_ ⟨_, rfl, rfl, Below.refl _ _, hG⟩; simp [slotOf] at h28; simp [go_sem, h28]
    ·intro w5 hG hR
     rintro _ rfl _ rfl _ rfl _ rfl _ rfl _ rfl _ rfl _ rfl _ rfl _ rfl _ rfl _ ⟨B1, d1, rfl⟩ _ rfl
     change wpList _ _ _ _ _ _
     simp only [Act.put, List.setIfInBounds_toArray, List.set_cons_zero, List.set_cons_succ, List.drop_succ_cons, List.drop_zero]
     have HE4 := Lib.hid (show newer w w5 ∧ Whole w5 w.heap.size 26 (smC y) from ⟨newer_trans HJ.out.2.1 hG, HJ.out.2.2.below hG HJ.out.2.2.lt⟩)
     clear hG hR x0 x1 x2 x3 x4 t2 t0_ m0 m1
     by_cases hL0 : L.length = 0
     case pos =>
      have hLi : ((L.length : Int) == 0) = true := by rw [beq_iff_eq]; omega
      have HR := Lib.hid (show res = false by
       rw [HRW.out, waysB_all]
       refine all_range_bad hlt ?_
       rw [HT.out.1]
       simp only
       rw [HT.out.2, List.eq_nil_of_length_eq_zero hL0]
       rfl)
      clear hL0
      go_wp2_with fail
      go_ret
      exact ⟨ret_bool HR.out.symm, HE4.out.1⟩
     case neg =>
      have hLi : ((L.length : Int) == 0) = false := by rw [beq_eq_false_iff_ne]; omega
      have HG2 := Lib.hid (show ∀ (j : Nat) (t : Tl), j < k + 1 → y.s.tools[j]? = some t → (waysN y.s j t (fnL f t.spot.toNat)).isEmpty = false from fun j t' hj ht' => by
       by_cases e : j = k
       ·subst e
        rw [HT.out.1] at ht'
        injection ht' with ht'
        rw [← ht', HT.out.2]
        cases L with
        | nil => exact absurd rfl hL0
        | cons a l => rfl
       ·exact HJ.out.1 j t' (by omega) ht')
      clear hL0
      go_wp2_with fail
      go_roundw
      case rel => exact ⟨k + 1, by omega, by go_num, HG2.out, HE4.out.1, HE4.out.2⟩
      case measure => simp [intOf]; omega

end Go.Proofs.Ytpmafnifgegfbaa
