/- The reads of a field, by words. -/
import Derived.Test.YtpmafnifgegfbaaAO
namespace Go.Proofs.Ytpmafnifgegfbaa
open Go.RowKit Go.Shelf Go.Deep

theorem inB_yes {v a b : Int} (h : inB v a b = true) : a ≤ v ∧ v ≤ b := by
  unfold inB at h
  rw [Bool.and_eq_true, decide_eq_true_eq, decide_eq_true_eq] at h
  exact h
theorem inB_no {v a b : Int} (h : inB v a b = false) : v < a ∨ b < v := by
  unfold inB at h
  rw [Bool.and_eq_false_iff, decide_eq_false_iff_not, decide_eq_false_iff_not] at h
  omega
/-- Two rows of one's own, apart. -/
structure Two (B : Nat) (A : Option Addr) (n c : Nat) (xs : List Value) (A2 : Option Addr) (n2 c2 : Nat) (ys : List Value) (W : World) : Prop where
  o1 : W.ownsRow B 3 1 (.slice A n c) n xs
  o2 : W.ownsRow B 3 1 (.slice A2 n2 c2) n2 ys
  ap : ∀ q, (Value.slice A n c).ownBlock = some q → (Value.slice A2 n2 c2).ownBlock ≠ some q
section
variable {B : Nat} {A : Option Addr} {n c : Nat} {xs : List Value} {A2 : Option Addr} {n2 c2 : Nat} {ys : List Value} {W W' : World}
theorem Two.symm (h : Two B A n c xs A2 n2 c2 ys W) : Two B A2 n2 c2 ys A n c xs W := ⟨h.o2, h.o1, fun q e e2 => h.ap q e2 e⟩
theorem Two.next (h : Two B A n c xs A2 n2 c2 ys W) (hb : newer W W') : Two B A n c xs A2 n2 c2 ys W' := ⟨own_below h.o1 hb, own_below h.o2 hb, h.ap⟩
theorem Two.add1 {g c' : Nat} {y : Value} (h : Two B A n c xs A2 n2 c2 ys W) (ho : W'.ownsRow B 3 1 (.slice (some ⟨g, 0, none⟩) (n + 1) c') (n + 1) (xs ++ [y])) (hon : (A = some ⟨g, 0, none⟩ ∧ c' = c ∧ W.grownBy W' (some g)) ∨ (W.heap.size ≤ g ∧ W.grownBy W' none)) : Two B (some ⟨g, 0, none⟩) (n + 1) c' (xs ++ [y]) A2 n2 c2 ys W' := by
  rcases hon with ⟨hA, _, hg⟩ | ⟨hl, hg⟩
  · refine ⟨ho, h.o2.kept hg ?_, fun q e => h.ap q (by rw [hA]; exact e)⟩
    exact .inr (h.ap g (by rw [hA]; rfl))
  · refine ⟨ho, h.o2.kept hg ?_, fun q e e2 => ?_⟩
    · rcases Option.eq_none_or_eq_some (Value.slice A2 n2 c2).ownBlock with e | ⟨k, e⟩
      · exact .inl e
      · exact .inr (by rw [e]; exact fun h => by cases h)
    · have h3 := own_lt h.o2 q e2
      have e3 : g = q := by simpa [Value.ownBlock] using e
      omega
end
theorem seenK_stop {s : Sd} {f : List Mv} {ws : List Hlf} {i n : Nat} {o : List Int × List Int} {t : Tl} {v : Int} (hi : i < n) (hT : seenK s f ws i = some o) (ht : s.tools[i]? = some t) (hv : v = readW s f ws i t) (h : v < -1000 ∨ 1000 < v) : seenK s f ws n = none := by
  have h1 : seenK s f ws (i + 1) = none := by
    show (seenK s f ws i).bind (stepR s f ws i) = none
    rw [hT]
    show stepR s f ws i o = none
    unfold stepR
    rw [ht]
    simp only
    rw [← hv, if_pos h]
  have h2 := seenK_none s f ws (n - (i + 1)) (i + 1) h1
  rw [show i + 1 + (n - (i + 1)) = n by omega] at h2
  exact h2
theorem seenK_go {s : Sd} {f : List Mv} {ws : List Hlf} {i : Nat} {rd l L : List Int} {t : Tl} {v : Int} (hT : seenK s f ws i = some (rd, l)) (ht : s.tools[i]? = some t) (hv : v = readW s f ws i t) (h : -1000 ≤ v ∧ v ≤ 1000) (hL : L = if t.turn = 0 then l else l ++ [turnW t ws i]) : seenK s f ws (i + 1) = some (rd ++ [v], L) := by
  show (seenK s f ws i).bind (stepR s f ws i) = _
  rw [hT]
  show stepR s f ws i (rd, l) = _
  unfold stepR
  rw [ht]
  simp only
  rw [← hv, if_neg (by omega), hL]
/-- What seen returns. -/
def SeenR (y : Sm) (f : List Mv) (ws : List Hlf) (w : World) (e : Ending) (w' : World) : Prop :=
  (∃ rd l A c A2 c2, seenK y.s f ws y.s.tools.length = some (rd, l) ∧ e = .returned (.tuple #[.slice A rd.length c, .slice A2 l.length c2, .bool true]) ∧ Two w.heap.size A rd.length c (rd.map vi) A2 l.length c2 (l.map vi) w' ∧ newer w w') ∨ (seenK y.s f ws y.s.tools.length = none ∧ e = .returned (.tuple #[.slice none 0 0, .slice none 0 0, .bool false]) ∧ newer w w')
theorem Two.low {B B' : Nat} {A : Option Addr} {n c : Nat} {xs : List Value} {A2 : Option Addr} {n2 c2 : Nat} {ys : List Value} {W : World} (h : Two B A n c xs A2 n2 c2 ys W) (hb : B' ≤ B) : Two B' A n c xs A2 n2 c2 ys W := ⟨own_more h.o1 hb, own_more h.o2 hb, h.ap⟩
set_option maxRecDepth 100000 in
set_option maxHeartbeats 4000000 in
theorem seenP_any (y : Sm) (f : List Mv) (fa : Option Addr) (fc : Nat) (ws : List Hlf) (B : Option Addr) (bc : Nat) (w : World) (hok : SmOk y w) (hs : SdOk y.s) (hfl : f.length = y.s.spots.length) (hfi : FieldIn y.s (fnL f)) (hfr : Row mvL 2 w w.heap.size fa f) (hwl : ws.length ≤ maxLen) (hr : Row hwL 1 w w.heap.size B ws) : Calls Try.prog 48 #[smV y, .slice fa f.length fc, .slice B ws.length bc] w (SeenR y f ws w) := by
  have hnw := newer_allocH w (.cells (smC y) 26)
  have hxb := Whole.made w 26 (smC y)
  have HB0 := Lib.hid (And.intro hnw hxb)
  have HOK := Lib.hid hok
  have HSD := Lib.hid hs
  have HR := Lib.hid hr
  obtain ⟨fb, fo, rfl⟩ : ∃ fb fo, fa = some ⟨fb, fo, none⟩ := by
    obtain ⟨m, hm⟩ : ∃ m, f[0]? = some m := ⟨_, List.getElem?_eq_getElem (by rw [hfl]; exact hs.spots.1)⟩
    obtain ⟨fb, fo, e, _⟩ := row2 hfr hm
    exact ⟨fb, fo, e⟩
  have HFR := Lib.hid hfr
  have HFI := Lib.hid (And.intro hfl hfi)
  have HWL := Lib.hid hwl
  obtain ⟨i0, hi0, hz0, hz1, hz2⟩ := info_parts info_int
  have HI := Lib.hid (And.intro hi0 (And.intro hz0 (And.intro hz1 hz2)))
  have ht8 := hs.few
  clear hi0 hz0 hz1 hz2 hok hs hr hwl hnw hfr hfl hfi
  have x0 := hxb.at 0 (v := .slice y.sa y.s.spots.length y.sc) rfl
  have x1 := hxb.at 1 (v := vi y.s.strain) rfl
  have x2 := hxb.at 2 (v := .slice y.ta y.s.tools.length y.tc) rfl
  have x3 := hxb.at 3 (v := vi y.s.day) rfl
  have x4 := hxb.at 4 (v := .slice y.ra y.s.reads.length y.rc) rfl
  clear hxb
  go_enter Try.func48, Try.ntmps48
  go_upto_region 3 with fail
  refine genQ (fun X => newer w X ∧ Whole X w.heap.size 26 (smC y)) HB0.out ?_
  rintro w1 ⟨hn1, hb1⟩
  have HB1 := Lib.hid (And.intro hn1 hb1)
  clear x0 x1 x2 x3 x4 hn1 hb1 HB0
  go_loopw [9, 10, 11, 12, 13, 14, 15] (fun s9 s10 s11 _ _ _ _ wr => ∃ (i : Nat) (A : Option Addr) (c : Nat) (rd : List Int) (A2 : Option Addr) (c2 : Nat) (l : List Int), i ≤ y.s.tools.length ∧ s11 = vi i ∧ s9 = .slice A i c ∧ s10 = .slice A2 l.length c2 ∧ seenK y.s f ws i = some (rd, l) ∧ Two w1.heap.size A i c (rd.map vi) A2 l.length c2 (l.map vi) wr ∧ newer w1 wr) (fun _ _ s11 _ _ _ _ _ => y.s.tools.length - (intOf s11).toNat)
  case atStart => exact ⟨0, none, 0, [], none, 0, [], Nat.zero_le _, rfl, rfl, rfl, rfl, ⟨⟨rfl, .inl ⟨rfl, rfl⟩⟩, ⟨rfl, .inl ⟨rfl, rfl⟩⟩, fun q e => by cases e⟩, newer_refl _⟩
  case round =>
    obtain ⟨i, A, c, rd, A2, c2, l, hi, rfl, rfl, rfl, hT, htw, hnw⟩ := hrel
    have HJ := Lib.hid (And.intro htw hnw)
    have HT := Lib.hid hT
    have hx := HB1.out.2.below hnw HB1.out.2.lt
    have HX := Lib.hid hx
    have x2 := hx.at 2 (v := .slice y.ta y.s.tools.length y.tc) rfl
    have x3 := hx.at 3 (v := vi y.s.day) rfl
    have HLR := Lib.hid (seen_inv ws i rd l hi hT).1
    have hll : l.length ≤ i := by
      have h := (seen_inv ws i rd l hi hT).2.2
      rw [← h, turL_len _ _ (by rw [ksW_len, List.length_take]; omega)]
      refine Nat.le_trans (List.length_filter_le _ _) ?_
      rw [List.length_take]
      omega
    by_cases hlt : i < y.s.tools.length
    case neg =>
      obtain rfl : i = y.s.tools.length := by omega
      have hge : ¬ (y.s.tools.length : Int) < y.s.tools.length := by omega
      clear hT htw hnw hx hll
      go_wp2_with fail
      exact bodyPost_ret (v := .tuple #[.slice A y.s.tools.length c, .slice A2 l.length c2, .bool true]) (by simp [results, Try.results48, go_sem]) rfl (show SeenR y f ws w _ _ from .inl ⟨rd, l, A, c, A2, c2, HT.out, by rw [HLR.out], by rw [HLR.out]; exact HJ.out.1.low HB1.out.1.size, newer_trans HB1.out.1 HJ.out.2⟩)
    case pos =>
      have hin : (i : Int) < y.s.tools.length := by omega
      obtain ⟨t, ht⟩ : ∃ t, y.s.tools[i]? = some t := ⟨_, List.getElem?_eq_getElem hlt⟩
      have hto := HSD.out.tool t (List.mem_of_getElem? ht)
      obtain ⟨tb, tof, et, htb, t0, t1, t2, t3, t4, t5, t6⟩ := row7 (HOK.out.tl.below (newer_trans HB1.out.1 hnw)) ht
      rw [et] at x2
      have HTT := Lib.hid ht
      have HTO := Lib.hid hto
      have HIN := Lib.hid hlt
      have HLL := Lib.hid hll
      have hday := HSD.out.day
      have HRO := Lib.hid (fun W => refOff_any t y.s.day W (by have := hto.err; omega) (by have := hto.drift; omega) (by have := hto.since; omega) (by omega))
      obtain ⟨off, hoff⟩ : ∃ q, q = offN t y.s.day := ⟨_, rfl⟩
      have hob := off_bd hto hday.1 hday.2
      rw [← hoff] at hob HRO
      have HOF := Lib.hid (And.intro hoff hob)
      clear hT htw hnw ht et hto hx hll hday hoff
      go_upto_region 6 with fail
      obtain ⟨gt, hgt⟩ : ∃ r, r = wr.heap.size := ⟨_, rfl⟩
      rw [← hgt]
      refine genQ (fun X => newer wr X ∧ Whole X gt 43 (tlC t)) ⟨newer_allocH _ _, by rw [hgt]; exact Whole.made _ _ _⟩ ?_
      rintro w5 ⟨hn5, ht5⟩
      have HW5 := Lib.hid (And.intro hn5 ht5)
      clear t0 t1 t2 t3 t4 t5 t6 x2 x3 hgt hn5
      have x3 := (HX.out.below HW5.out.1 HX.out.lt).at 3 (v := vi y.s.day) rfl
      have t0 := ht5.at 0 (v := vi t.spot) rfl
      have t1 := ht5.at 1 (v := vi t.a) rfl
      have t2 := ht5.at 2 (v := vi t.b) rfl
      have t3 := ht5.at 3 (v := vi t.turn) rfl
      have t4 := ht5.at 4 (v := vi t.err) rfl
      have t5 := ht5.at 5 (v := vi t.drift) rfl
      have t6 := ht5.at 6 (v := vi t.since) rfl
      clear ht5
      go_upto_region 7 with (refine (HRO.out _).mono ?_; rintro e w6 ⟨rfl, hb⟩)
      have HW6 := Lib.hid (newer_trans HB1.out.1 (newer_trans HJ.out.2 (newer_trans HW5.out.1 hb)))
      have HN61 := Lib.hid (newer_trans HJ.out.2 (newer_trans HW5.out.1 hb))
      have ht6 := HW5.out.2.below hb HW5.out.2.lt
      have HT6 := Lib.hid ht6
      have HNJ6 := Lib.hid (newer_trans HW5.out.1 hb)
      clear x3 t0 t1 t2 t3 t4 t5 t6 hb HW5
      have t0 := ht6.at 0 (v := vi t.spot) rfl
      have t1 := ht6.at 1 (v := vi t.a) rfl
      have t2 := ht6.at 2 (v := vi t.b) rfl
      have t3 := ht6.at 3 (v := vi t.turn) rfl
      have t4 := ht6.at 4 (v := vi t.err) rfl
      have t5 := ht6.at 5 (v := vi t.drift) rfl
      have t6 := ht6.at 6 (v := vi t.since) rfl
      clear ht6
      obtain ⟨spn, hsp⟩ : ∃ k : Nat, t.spot = k := ⟨t.spot.toNat, by have := HTO.out.spot; omega⟩
      have hspn : spn < f.length := by have := HTO.out.spot; have := HFI.out.1; omega
      have hsl : (spn : Int) < f.length := by omega
      obtain ⟨m, hm⟩ : ∃ m, f[spn]? = some m := ⟨_, List.getElem?_eq_getElem hspn⟩
      have hfm : fnL f t.spot.toNat = m := by rw [hsp]; exact fnL_at hm
      obtain ⟨fb', fo', ef, _, m0, m1⟩ := row2 (HFR.out.below HW6.out) hm
      injection ef with ef
      injection ef with ef1 ef2
      subst ef1
      subst ef2
      have hmb := FieldIn.bd HSD.out HFI.out.2 (i := t.spot.toNat) (by have := HTO.out.spot; omega)
      rw [hfm] at hmb
      have hsb := sight_bd HTO.out hmb.1 hmb.2
      have HSG : Hid (∀ W, Calls Try.prog 23 #[tlV t, mvV m] W fun e w' => e = .returned (vi (sightN t m)) ∧ newer W w') := Lib.hid (fun W => refSight_any t m W (by have := HTO.out.a; omega) (by have := HTO.out.b; omega) (by omega) (by omega))
      have ei2 : IntKind.i64.wrap (2 * (i : Int)) = 2 * i := IntWalk.i64_in _ (by omega)
      have ei3 : IntKind.i64.wrap (20 + 2 * (i : Int)) = 20 + 2 * i := IntWalk.i64_in _ (by omega)
      have eof : IntKind.i64.wrap (-off) = -off := IntWalk.i64_in _ (by omega)
      obtain ⟨pk, hpk⟩ : ∃ q, q = pickN (-off) off ws (20 + 2 * i) := ⟨_, rfl⟩
      have hpb := pick_in (low := -off) (high := off) (by omega) ws (20 + 2 * i)
      rw [← hpk] at hpb
      have HPK : Hid (∀ W, newer w W → Calls Try.prog 79 #[vi (-off), vi off, .slice B ws.length bc, vi (20 + 2 * i)] W fun e w' => e = .returned (vi pk) ∧ newer W w') := Lib.hid (fun W hW => by
        have h := pick_any (-off) off ws B bc (20 + 2 * i) W (by omega) HWL.out (by omega) ((HR.out.below hW).more hW.size)
        rw [show ((20 + 2 * i : Nat) : Int) = 20 + 2 * (i : Int) by omega] at h
        rw [hpk]
        exact h)
      obtain ⟨v0, hv0⟩ : ∃ q, q = sightN t m + pk := ⟨_, rfl⟩
      have ev0 : IntKind.i64.wrap (sightN t m + pk) = v0 := by rw [hv0]; exact IntWalk.i64_in _ (by omega)
      have hvb : -1000 ≤ v0 ∧ v0 ≤ 1000 := by omega
      have HV0 : Hid (readW y.s f ws i t = v0 - turnW t ws i * t.turn) := Lib.hid (by unfold readW; rw [hfm, ← HOF.out.1, ← hpk, hv0])
      rw [hsp] at t0
      have HSP := Lib.hid hsp
      clear hm hfm hmb hsb hpk hpb hv0 hspn hsp
      go_upto_region 7 with fail
      refine wp_words (by kernel_rfl) (region_told 16 (by kernel_rfl) (by kernel_rfl) (fun W => Below w6.heap.size w6 W) newer (pickD [vIs (tlV t), vIs (.slice (some ⟨fb, fo, none⟩) f.length fc), vIs (.pointer (some ⟨gt, 0, none⟩)), vIs (.int .i64 spn), vIs (.pointer (some ⟨fb, fo + spn * 2, none⟩)), vIs (mvV m), vIs (vi (sightN t m)), vIs (vi off), vIs (vi (-off)), vIs (vi off), vIs (.slice B ws.length bc), vIs (.int .i64 i), vIs (vi (2 * i)), vIs (vi (20 + 2 * i)), vIs (vi pk), vIs (vi v0)]) (fun h k => newer_trans h k) (pickD_stable _ ⟨vIs_st, vIs_st, vIs_st, vIs_st, vIs_st, vIs_st, vIs_st, vIs_st, vIs_st, vIs_st, vIs_st, vIs_st, vIs_st, vIs_st, vIs_st, vIs_st, trivial⟩) (Below.refl _ w6).drew (Below.refl _ _) ?_ ?_)
      · refine ⟨?_, ?_, ?_, ?_, ?_, ?_, ?_, ?_, ?_, ?_, ?_, ?_, ?_, ?_, ?_, ?_, trivial⟩
        · intro a W hG hR hO hp
          have h12 := hO.slot 12 (by kernel_rfl)
          have c0 := keep_cell t0 hG
          have c1 := keep_cell t1 hG
          have c2 := keep_cell t2 hG
          have c3 := keep_cell t3 hG
          have c4 := keep_cell t4 hG
          have c5 := keep_cell t5 hG
          have c6 := keep_cell t6 hG
          refine kY (v := tlV t) hG rfl ?_
          simp [slotOf] at h12
          simp [execOp, go_sem, h12, c0, c1, c2, c3, c4, c5, c6, HSP.out]
        · exact fun a W hG _ hO _ => kM 1 rfl (hO.slot 1 (by kernel_rfl)) rfl hG
        · intro a W hG hR hO hp
          have h12 := hO.slot 12 (by kernel_rfl)
          refine kY (v := .pointer (some ⟨gt, 0, none⟩)) hG rfl ?_
          simp [slotOf] at h12
          simp [execOp, go_sem, h12]
        · intro a W hG hR hO hp
          have h34 : slotOf a 34 = .pointer (some ⟨gt, 0, none⟩) := hp.1
          have c0 := keep_cell t0 hG
          refine kY (v := .int .i64 spn) hG rfl ?_
          simp [slotOf] at h34
          simp [execOp, go_sem, h34, c0]
        · intro a W hG hR hO hp
          have h33 : slotOf a 33 = .slice (some ⟨fb, fo, none⟩) f.length fc := hp.1
          have h35 : slotOf a 35 = .int .i64 spn := hp.2.1
          refine kY (v := .pointer (some ⟨fb, fo + spn * 2, none⟩)) hG rfl ?_
          simp [slotOf] at h33 h35
          simp [execOp, go_sem, h33, h35, hsl]
        · intro a W hG hR hO hp
          have h36 : slotOf a 36 = .pointer (some ⟨fb, fo + spn * 2, none⟩) := hp.1
          have c0 := keep_cell m0 hG
          have c1 := keep_cell m1 hG
          refine kY (v := mvV m) hG rfl ?_
          simp [slotOf] at h36
          simp [execOp, go_sem, h36, c0, c1]
        · intro a W hG hR hO hp
          have h32 : slotOf a 32 = tlV t := hp.1
          have h37 : slotOf a 37 = mvV m := hp.2.1
          refine wp_enters (f := 23) (args := #[tlV t, mvV m]) ?_ ((HSG.out W).mono ?_)
          · simp [slotOf] at h32 h37
            simp [go_sem, h32, h37]
          · rintro e w' ⟨rfl, hb⟩
            exact ⟨_, rfl, _, rfl, rfl, hb, below_next hG hb⟩
        · exact fun a W hG _ hO _ => kM 13 rfl (hO.slot 13 (by kernel_rfl)) rfl hG
        · intro a W hG hR hO hp
          have h39 : slotOf a 39 = vi off := hp.1
          refine kY (v := vi (-off)) hG rfl ?_
          simp [slotOf] at h39
          simp [execOp, go_sem, h39, eof]
        · exact fun a W hG _ hO _ => kM 13 rfl (hO.slot 13 (by kernel_rfl)) rfl hG
        · exact fun a W hG _ hO _ => kM 2 rfl (hO.slot 2 (by kernel_rfl)) rfl hG
        · exact fun a W hG _ hO _ => kM 11 rfl (hO.slot 11 (by kernel_rfl)) rfl hG
        · intro a W hG hR hO hp
          have h43 : slotOf a 43 = .int .i64 i := hp.1
          refine kY (v := vi (2 * i)) hG rfl ?_
          simp [slotOf] at h43
          simp [execOp, go_sem, h43, ei2]
        · intro a W hG hR hO hp
          have h44 : slotOf a 44 = vi (2 * i) := hp.1
          refine kY (v := vi (20 + 2 * i)) hG rfl ?_
          simp [slotOf] at h44
          simp [execOp, go_sem, h44, ei3]
        · intro a W hG hR hO hp
          have h40 : slotOf a 40 = vi (-off) := hp.1
          have h41 : slotOf a 41 = vi off := hp.2.1
          have h42 : slotOf a 42 = .slice B ws.length bc := hp.2.2.1
          have h45 : slotOf a 45 = vi (20 + 2 * i) := hp.2.2.2.1
          refine wp_enters (f := 79) (args := #[vi (-off), vi off, .slice B ws.length bc, vi (20 + 2 * i)]) ?_ ((HPK.out W (newer_trans HW6.out hG)).mono ?_)
          · simp [slotOf] at h40 h41 h42 h45
            simp [go_sem, h40, h41, h42, h45]
          · rintro e w' ⟨rfl, hb⟩
            exact ⟨_, rfl, _, rfl, rfl, hb, below_next hG hb⟩
        · intro a W hG hR hO hp
          have h38 : slotOf a 38 = vi (sightN t m) := hp.1
          have h46 : slotOf a 46 = vi pk := hp.2.1
          refine kY (v := vi v0) hG rfl ?_
          simp [slotOf] at h38 h46
          simp [execOp, go_sem, h38, h46, ev0]
      · intro w7 hG hR
        rintro _ rfl _ rfl _ rfl _ rfl _ rfl _ rfl _ rfl _ rfl _ rfl _ rfl _ rfl _ rfl _ rfl _ rfl _ rfl _ rfl
        change wpList _ _ _ _ _ _
        simp only [Act.put, List.setIfInBounds_toArray, List.set_cons_zero, List.set_cons_succ, List.drop_succ_cons, List.drop_zero]
        have HN71 := Lib.hid (newer_trans HN61.out hG)
        have HWN7 := Lib.hid (newer_trans HW6.out hG)
        have ht7 := HT6.out.below hG HT6.out.lt
        have HTW7 := Lib.hid (HJ.out.1.next (newer_trans HNJ6.out hG))
        clear hG hR t0 t1 t2 t3 t4 t5 t6 m0 m1
        have t3 := ht7.at 3 (v := vi t.turn) rfl
        clear ht7
        have HFEW := Lib.hid (show i < 1000 by omega)
        obtain ⟨T, hTe⟩ : ∃ q, q = t.turn := ⟨_, rfl⟩
        rw [← hTe] at t3
        have htb := HTO.out.turn
        rw [← hTe] at htb
        have HTE := Lib.hid hTe
        clear hTe
        by_cases hT0 : T = 0
        case pos =>
          subst hT0
          obtain ⟨v, hv⟩ : ∃ q, q = v0 := ⟨_, rfl⟩
          have HV : Hid (v = readW y.s f ws i t) := Lib.hid (by rw [HV0.out, ← HTE.out, Int.mul_zero, Int.sub_zero]; exact hv)
          have HLST : Hid (l = if t.turn = 0 then l else l ++ [turnW t ws i]) := Lib.hid (by rw [if_pos HTE.out.symm])
          rw [← hv] at hvb ⊢
          go_upto_region 12 with fail
          refine genQ (fun X => newer w1 X ∧ Two w1.heap.size A i c (rd.map vi) A2 l.length c2 (l.map vi) X) ⟨HN71.out, HTW7.out⟩ ?_
          rintro wq ⟨hnq, htq⟩
          have HNQ := Lib.hid hnq
          have HTW := Lib.hid htq
          clear hnq htq t3 hv htb
          have HI2 := Lib.hid (fun W => in_any v (-1000) 1000 W)
          cases hb : inB v (-1000) 1000 with
          | false =>
            rw [hb] at HI2
            have HBD : Hid (v < -1000 ∨ 1000 < v) := Lib.hid (inB_no hb)
            have HNO := Lib.hid (show seenK y.s f ws y.s.tools.length = none from seenK_stop HIN.out HT.out HTT.out HV.out HBD.out)
            clear hb
            go_wp2_with fail
            refine (HI2.out _).mono ?_
            rintro e w9 ⟨rfl, rfl⟩
            go_wp2_with fail
            exact bodyPost_ret (v := .tuple #[.slice none 0 0, .slice none 0 0, .bool false]) (by simp [results, Try.results48, go_sem]) rfl (show SeenR y f ws w _ _ from .inr ⟨HNO.out, rfl, newer_trans HB1.out.1 HNQ.out⟩)
          | true =>
            rw [hb] at HI2
            have HBD : Hid (-1000 ≤ v ∧ v ≤ 1000) := Lib.hid (inB_yes hb)
            have HGO := Lib.hid (show seenK y.s f ws (i + 1) = some (rd ++ [v], l) from seenK_go HT.out HTT.out HV.out HBD.out HLST.out)
            clear hb
            go_upto_region 14 with (refine (HI2.out _).mono ?_; rintro e w9 ⟨rfl, rfl⟩)
            have HV1 : Hid (Whole (wq.alloc (.cells #[vi v] 3)) wq.heap.size 3 #[vi v]) := Lib.hid (Whole.made _ _ _)
            have HT3 := Lib.hid (HTW.out.next (newer_allocH wq (.cells #[vi v] 3)))
            have HSZ := Lib.hid (show w1.heap.size ≤ (wq.alloc (.cells #[vi v] 3)).heap.size by have := HNQ.out.size; rw [World.size_alloc]; omega)
            go_wp2_with (at_builtin; go_loud ((refine wpList_plain rfl fun _ hK => wp_append_one (.tmp 69) (.tmp 71) 24 rfl w1.heap.size 3 i0 (.int .i64 0) 8 Try.underlying24 HI.out.1 HI.out.2.1 HI.out.2.2.1 HI.out.2.2.2 rfl A i c (rd.map vi) rfl HT3.out.o1 ⟨wq.heap.size, 0, none⟩ 1 (vi v) rfl (HV1.out.at 0 rfl) rfl (by have := HFEW.out; unfold maxLen; omega) (by have := HFEW.out; omega) HSZ.out fun g2 c3 w10 hown hwh => hK _ _ ?_); have HE := Lib.hid (And.intro (HT3.out.add1 hown hwh) (below_row (newer_trans HNQ.out (newer_allocH wq (.cells #[vi v] 3))) HT3.out.o1 (Onto1.grown (A := A) (c := c) (n := i) hwh) (Nat.le_refl _))); clear hown hwh))
            refine ⟨⟨i + 1, some ⟨g2, 0, none⟩, c3, rd ++ [v], A2, c2, l, by omega, rfl, rfl, rfl, HGO.out, by have h := HE.out.1; rw [← List.map_singleton (f := vi), ← List.map_append] at h; exact h, HE.out.2⟩, ?_⟩
            simp [intOf]
            omega
        case neg =>
          have hTb : (T != 0) = true := by simp [bne, hT0]
          have hTb2 : (T == 0) = false := by simpa using hT0
          obtain ⟨k, hk⟩ : ∃ q, q = turnW t ws i := ⟨_, rfl⟩
          have hkp : k = pickN (-3) 3 ws (21 + 2 * i) := by rw [hk]; unfold turnW; rw [← HTE.out, if_neg hT0]
          have hkb := pick_in (low := -3) (high := 3) (by omega) ws (21 + 2 * i)
          rw [← hkp] at hkb
          have HPT : Hid (∀ W, newer w W → Calls Try.prog 79 #[vi (-3), vi 3, .slice B ws.length bc, vi (21 + 2 * i)] W fun e w' => e = .returned (vi k) ∧ newer W w') := Lib.hid (fun W hW => by
            have h := pick_any (-3) 3 ws B bc (21 + 2 * i) W (by omega) HWL.out (by omega) ((HR.out.below hW).more hW.size)
            rw [show ((21 + 2 * i : Nat) : Int) = 21 + 2 * (i : Int) by omega] at h
            rw [hkp]
            exact h)
          have ei4 : IntKind.i64.wrap (21 + 2 * (i : Int)) = 21 + 2 * i := IntWalk.i64_in _ (by omega)
          have hmul := mulb (a := k) (x := T) (A := 3) (X := 200) hkb (by omega)
          have hm1 : -600 ≤ k * T := hmul.1
          have hm2 : k * T ≤ 600 := hmul.2
          have ewm : IntKind.i64.wrap (k * T) = k * T := IntWalk.i64_in _ (by omega)
          obtain ⟨v, hv⟩ : ∃ q, q = v0 - k * T := ⟨_, rfl⟩
          have ev : IntKind.i64.wrap (v0 - k * T) = v := by rw [hv]; exact IntWalk.i64_in _ (by omega)
          have HV : Hid (v = readW y.s f ws i t) := Lib.hid (by rw [HV0.out, ← HTE.out, ← hk]; exact hv)
          obtain ⟨l2, hl2⟩ : ∃ q, q = l ++ [k] := ⟨_, rfl⟩
          have hl2l : l2.length = l.length + 1 := by rw [hl2, List.length_append]; rfl
          have HLST : Hid (l2 = if t.turn = 0 then l else l ++ [turnW t ws i]) := Lib.hid (by rw [if_neg (by rw [← HTE.out]; exact hT0), ← hk, hl2])
          have HL2 := Lib.hid (And.intro hl2 hl2l)
          have HVB : Hid (-1000000 ≤ v ∧ v ≤ 1000000) := Lib.hid (by omega)
          clear hk hkp hkb hmul hv hl2 hl2l hvb
          go_upto_region 9 with fail
          go_wp2_with fail
          refine (HPT.out _ HWN7.out).mono ?_
          rintro e w8 ⟨rfl, hb⟩
          have HN81 := Lib.hid (newer_trans HN71.out hb)
          have HTW8 := Lib.hid (HTW7.out.next hb)
          have t3' := keep_cell t3 hb
          clear hb HPT t3
          go_upto_region 11 with fail
          have HV1 : Hid (Whole (w8.alloc (.cells #[vi k] 3)) w8.heap.size 3 #[vi k]) := Lib.hid (Whole.made _ _ _)
          have HT3 := Lib.hid (HTW8.out.next (newer_allocH w8 (.cells #[vi k] 3)))
          have HSZ := Lib.hid (show w1.heap.size ≤ (w8.alloc (.cells #[vi k] 3)).heap.size by have := HN81.out.size; rw [World.size_alloc]; omega)
          go_upto_region 12 with (at_builtin; go_loud ((refine wpList_plain rfl fun _ hK => wp_append_one (.tmp 62) (.tmp 64) 24 rfl w1.heap.size 3 i0 (.int .i64 0) 8 Try.underlying24 HI.out.1 HI.out.2.1 HI.out.2.2.1 HI.out.2.2.2 rfl A2 l.length c2 (l.map vi) rfl HT3.out.o2 ⟨w8.heap.size, 0, none⟩ 1 (vi k) rfl (HV1.out.at 0 rfl) rfl (by have := HFEW.out; have := HLL.out; unfold maxLen; omega) (by have := HFEW.out; have := HLL.out; omega) HSZ.out fun g3 c4 w9 hown hwh => hK _ _ ?_); have HE2 := Lib.hid (And.intro (HT3.out.symm.add1 hown hwh).symm (below_row (newer_trans HN81.out (newer_allocH w8 (.cells #[vi k] 3))) HT3.out.o2 (Onto1.grown (A := A2) (c := c2) (n := l.length) hwh) (Nat.le_refl _))); clear hown hwh))
          rw [← HL2.out.2]
          have htw2 := HE2.out.1
          rw [← HL2.out.2, ← List.map_singleton (f := vi), ← List.map_append, ← HL2.out.1] at htw2
          refine genQ (fun X => newer w1 X ∧ Two w1.heap.size A i c (rd.map vi) (some ⟨g3, 0, none⟩) l2.length c4 (l2.map vi) X) ⟨HE2.out.2, htw2⟩ ?_
          rintro wq ⟨hnq, htq⟩
          have HNQ := Lib.hid hnq
          have HTW := Lib.hid htq
          clear hnq htq t3' htb htw2 HE2 HT3 HV1 HSZ ewm ev hm1 hm2
          have hvb := HVB.out
          have HI2 := Lib.hid (fun W => in_any v (-1000) 1000 W)
          cases hb : inB v (-1000) 1000 with
          | false =>
            rw [hb] at HI2
            have HBD : Hid (v < -1000 ∨ 1000 < v) := Lib.hid (inB_no hb)
            have HNO := Lib.hid (show seenK y.s f ws y.s.tools.length = none from seenK_stop HIN.out HT.out HTT.out HV.out HBD.out)
            clear hb
            go_wp2_with fail
            refine (HI2.out _).mono ?_
            rintro e w9 ⟨rfl, rfl⟩
            go_wp2_with fail
            exact bodyPost_ret (v := .tuple #[.slice none 0 0, .slice none 0 0, .bool false]) (by simp [results, Try.results48, go_sem]) rfl (show SeenR y f ws w _ _ from .inr ⟨HNO.out, rfl, newer_trans HB1.out.1 HNQ.out⟩)
          | true =>
            rw [hb] at HI2
            have HBD : Hid (-1000 ≤ v ∧ v ≤ 1000) := Lib.hid (inB_yes hb)
            have HGO := Lib.hid (show seenK y.s f ws (i + 1) = some (rd ++ [v], l2) from seenK_go HT.out HTT.out HV.out HBD.out HLST.out)
            clear hb
            go_upto_region 14 with (refine (HI2.out _).mono ?_; rintro e w9 ⟨rfl, rfl⟩)
            have HV1 : Hid (Whole (wq.alloc (.cells #[vi v] 3)) wq.heap.size 3 #[vi v]) := Lib.hid (Whole.made _ _ _)
            have HT3 := Lib.hid (HTW.out.next (newer_allocH wq (.cells #[vi v] 3)))
            have HSZ := Lib.hid (show w1.heap.size ≤ (wq.alloc (.cells #[vi v] 3)).heap.size by have := HNQ.out.size; rw [World.size_alloc]; omega)
            go_wp2_with (at_builtin; go_loud ((refine wpList_plain rfl fun _ hK => wp_append_one (.tmp 69) (.tmp 71) 24 rfl w1.heap.size 3 i0 (.int .i64 0) 8 Try.underlying24 HI.out.1 HI.out.2.1 HI.out.2.2.1 HI.out.2.2.2 rfl A i c (rd.map vi) rfl HT3.out.o1 ⟨wq.heap.size, 0, none⟩ 1 (vi v) rfl (HV1.out.at 0 rfl) rfl (by have := HFEW.out; unfold maxLen; omega) (by have := HFEW.out; omega) HSZ.out fun g2 c3 w10 hown hwh => hK _ _ ?_); have HE := Lib.hid (And.intro (HT3.out.add1 hown hwh) (below_row (newer_trans HNQ.out (newer_allocH wq (.cells #[vi v] 3))) HT3.out.o1 (Onto1.grown (A := A) (c := c) (n := i) hwh) (Nat.le_refl _))); clear hown hwh))
            refine ⟨⟨i + 1, some ⟨g2, 0, none⟩, c3, rd ++ [v], (some ⟨g3, 0, none⟩), c4, l2, by omega, rfl, rfl, rfl, HGO.out, by have h := HE.out.1; rw [← List.map_singleton (f := vi), ← List.map_append] at h; exact h, HE.out.2⟩, ?_⟩
            simp [intOf]
            omega

end Go.Proofs.Ytpmafnifgegfbaa
