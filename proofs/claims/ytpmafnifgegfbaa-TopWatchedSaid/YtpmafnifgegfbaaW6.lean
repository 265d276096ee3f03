/- TopWatched returns true: whatever field was true in each hour, the speed of the first spot is in the range of its hour, and whenever it is at least Fall, the level is Call in that hour and the Out hours before. -/
import Derived.Test.YtpmafnifgegfbaaW5
import Derived.Test.YtpmafnifgegfbaaW4
import Derived.Test.YtpmafnifgegfbaaAI
namespace Go.Proofs.Ytpmafnifgegfbaa
open Go.RowKit Go.Shelf Go.Deep

/-- A post whose gauges are being laid. -/
structure PoJ (B0 pb : Nat) (pf po : Int) (es : List Int) (w : World) (A : Option Addr) (i c : Nat) (W : World) : Prop where
 nw : newer w W
 bx : Whole W pb 32 #[.slice A i c, vi 60, vi 60, vi pf, vi po, vi 1]
 own : W.ownsRow B0 3 1 (.slice A i c) i ((es.take i).map vi)
 lo : w.heap.size ≤ B0
 lp : B0 ≤ pb
section
variable {B0 pb : Nat} {pf po : Int} {es : List Int} {w W W' : World} {A : Option Addr} {i c : Nat}
theorem PoJ.next (h : PoJ B0 pb pf po es w A i c W) (hb : newer W W') : PoJ B0 pb pf po es w A i c W' := ⟨newer_trans h.nw hb, h.bx.below hb h.bx.lt, own_below h.own hb, h.lo, h.lp⟩
theorem PoJ.app {g c' : Nat} {v : Int} (h : PoJ B0 pb pf po es w A i c W) (hown : W'.ownsRow B0 3 1 (.slice (some ⟨g, 0, none⟩) (i + 1) c') (i + 1) ((es.take i).map vi ++ [vi v])) (hwh : (A = some ⟨g, 0, none⟩ ∧ c' = c ∧ W.grownBy W' (some g)) ∨ (W.heap.size ≤ g ∧ W.grownBy W' none)) (hv : es[i]? = some v) :
  Whole W' pb 32 #[.slice A i c, vi 60, vi 60, vi pf, vi po, vi 1] ∧ PoJ B0 pb pf po es w (some ⟨g, 0, none⟩) (i + 1) c' (W'.setCell ⟨pb, 0, none⟩ (.slice (some ⟨g, 0, none⟩) (i + 1) c')) := by
 have hg := Onto1.grown (A := A) (c := c) (n := i) hwh
 have hp : Whole W' pb 32 #[.slice A i c, vi 60, vi 60, vi pf, vi po, vi 1] := h.bx.grown hg (own_ne h.own h.bx (by decide)).symm
 have hn : newer w W' := by
  have h1 := below_row h.nw h.own hg h.lo
  exact h1
 refine ⟨hp, hn.setCell (p := ⟨pb, 0, none⟩) (Nat.le_trans h.lo h.lp) _, hp.set 0 _, ?_, h.lo, h.lp⟩
 have e : es.take (i + 1) = es.take i ++ [v] := by rw [List.take_add_one, hv]; rfl
 rw [e, List.map_append]
 exact own_set hown (own_ne hown hp (by decide)) _
end
set_option maxRecDepth 100000 in
set_option maxHeartbeats 4000000 in
theorem topWatched_walk (y : Sm) (hrs fall out : Nat) (ws : List Hlf) (B : Option Addr) (bc : Nat) (w : World) (hok : SmOk y w) (hwl : ws.length ≤ maxLen) (hr : Row hwL 1 w w.heap.size B ws) (hh : hrs ≤ 255) (hfa : fall ≤ 255) (hou : out ≤ 255) :
  Calls Try.prog 3 #[smV y, .int .u8 (hrs : Int), .int .u8 (fall : Int), .int .u8 (out : Int), .slice B ws.length bc] w fun e w' => e = .returned (.bool true) ∧ newer w w' := by
 have hnw := newer_allocH w (.cells (smC y) 26)
 have hxb := Whole.made w 26 (smC y)
 have HTH := Lib.hid (lawThin y (w.alloc (.cells (smC y) 26)))
 have HN0 := Lib.hid (And.intro hnw hxb)
 have HOK := Lib.hid hok
 have HR := Lib.hid hr
 have HWL := Lib.hid hwl
 have x0 := hxb.at 0 (v := .slice y.sa y.s.spots.length y.sc) rfl
 have x1 := hxb.at 1 (v := vi y.s.strain) rfl
 have x2 := hxb.at 2 (v := .slice y.ta y.s.tools.length y.tc) rfl
 have x3 := hxb.at 3 (v := vi y.s.day) rfl
 have x4 := hxb.at 4 (v := .slice y.ra y.s.reads.length y.rc) rfl
 clear hok hnw hxb hr hwl
 cases ht : thinS y.s with
 | false =>
  rw [ht] at HTH
  clear ht
  go_enter Try.func3, Try.ntmps3
  go_wp2_with fail
  refine (HTH.out).mono ?_
  rintro e w1 ⟨rfl, hb1⟩
  have HN := Lib.hid (newer_trans HN0.out.1 hb1)
  clear hb1 HTH HN0 x0 x1 x2 x3 x4
  go_wp2_with fail
  refine (watches_any _).mono ?_
  rintro e wk ⟨rfl, hb⟩
  have HK := Lib.hid (newer_trans (HN.out) hb)
  clear hb
  go_wp2_with fail
  go_ret
  exact ⟨rfl, HK.out⟩
 | true =>
  have HFW := Lib.hid (thin_few ht).1
  rw [ht] at HTH
  clear ht
  go_enter Try.func3, Try.ntmps3
  go_wp2_with fail
  refine (HTH.out).mono ?_
  rintro e w1 ⟨rfl, hb1⟩
  have hn := newer_trans HN0.out.1 hb1
  have hw := HN0.out.2.below hb1 HN0.out.2.lt
  have HB1 := Lib.hid hw
  have HFA := Lib.hid (refFault_any y w1 (HOK.out.next hn) HFW.out)
  have HN := Lib.hid hn
  clear hb1 HTH HN0 x0 x1 x2 x3 x4 hn
  have x0 := hw.at 0 (v := .slice y.sa y.s.spots.length y.sc) rfl
  have x1 := hw.at 1 (v := vi y.s.strain) rfl
  have x2 := hw.at 2 (v := .slice y.ta y.s.tools.length y.tc) rfl
  have x3 := hw.at 3 (v := vi y.s.day) rfl
  have x4 := hw.at 4 (v := .slice y.ra y.s.reads.length y.rc) rfl
  clear hw
  go_wp2_with fail
  refine (HFA.out).mono ?_
  rintro e w2 ⟨rfl, hb2⟩
  have HE := Lib.hid (newer_trans HN.out hb2)
  have HB2 := Lib.hid (HB1.out.below hb2 HB1.out.lt)
  clear hb2 HFA x0 x1 x2 x3 x4 HB1
  obtain ⟨e, he⟩ : ∃ q, q = errN y.s := ⟨_, rfl⟩
  have HEE := Lib.hid he
  rw [← he]
  clear he
  by_cases h0 : e = 0
  case neg =>
   have hbq : (e == 0) = false := by simpa using h0
   go_wp2_with fail
   refine (watches_any _).mono ?_
   rintro e wk ⟨rfl, hb⟩
   have HK := Lib.hid (newer_trans (HE.out) hb)
   clear hb
   go_wp2_with fail
   go_ret
   exact ⟨rfl, HK.out⟩
  case pos =>
   subst h0
   have HSD := Lib.hid (err_iff.1 HEE.out.symm)
   clear HEE
   obtain ⟨n, hn⟩ : ∃ n, n = y.s.spots.length := ⟨_, rfl⟩
   have hn1 : 1 ≤ n ∧ n ≤ 6 := by rw [hn]; exact HSD.out.spots
   have HNN := Lib.hid hn
   have hst := HSD.out.strain
   obtain ⟨es, hes⟩ : ∃ q, q = (postW y.s fall out).es := ⟨_, rfl⟩
   have HES : Hid (es.length = n ∧ ∀ i, i < n → es[i]? = some (6 + y.s.strain * (i : Nat))) := Lib.hid ⟨by rw [hes, hn, postW_len], fun i hi => by rw [hes]; exact postW_at y.s fall out (by rw [← hn]; exact hi)⟩
   have HESQ := Lib.hid hes
   obtain ⟨pf, hpf⟩ : ∃ q : Int, q = 1 + ((fall % 60 : Nat) : Int) := ⟨_, rfl⟩
   obtain ⟨po, hpo⟩ : ∃ q : Int, q = ((out % 5 : Nat) : Int) := ⟨_, rfl⟩
   obtain ⟨f0, hf0⟩ : ∃ q : Int, q = ((fall % 60 : Nat) : Int) := ⟨_, rfl⟩
   have hf0b : 0 ≤ f0 ∧ f0 ≤ 59 := by have := Nat.mod_lt fall (show 0 < 60 by decide); omega
   have hpob : 0 ≤ po ∧ po ≤ 4 := by have := Nat.mod_lt out (show 0 < 5 by decide); omega
   have hpfb : 1 ≤ pf ∧ pf ≤ 60 := by omega
   have HPF := Lib.hid (And.intro hpf hpo)
   have ec1 : IntKind.i64.wrap (fall : Int) = fall := IntWalk.i64_in _ (by omega)
   have ec2 : IntKind.i64.wrap (out : Int) = out := IntWalk.i64_in _ (by omega)
   have er1 : (fall : Int).tmod 60 = f0 := by rw [hf0, Int.tmod_eq_emod_of_nonneg (by omega)]; exact (Int.natCast_emod _ _).symm
   have er2 : (out : Int).tmod 5 = po := by rw [hpo, Int.tmod_eq_emod_of_nonneg (by omega)]; exact (Int.natCast_emod _ _).symm
   have ep : 1 + f0 = pf := by omega
   have ep2 : IntKind.i64.wrap (1 + f0) = pf := by rw [← ep]; exact IntWalk.i64_in _ (by omega)
   obtain ⟨i0, hi0, hz0, hz1, hz2⟩ := info_parts info_int
   have HI := Lib.hid (And.intro hi0 (And.intro hz0 (And.intro hz1 hz2)))
   clear hi0 hz0 hz1 hz2 hn hes hpf hpo hf0
   go_upto_region 4 with fail
   obtain ⟨pb, hpb⟩ : ∃ q, q = w2.heap.size := ⟨_, rfl⟩
   rw [← hpb]
   refine genQ (fun X => X.heap.size = w2.heap.size + 1 ∧ newer w2 X ∧ Whole X pb 32 #[.slice none 0 0, vi 60, vi 60, vi pf, vi po, vi 1]) ⟨World.size_alloc _ _, newer_allocH _ _, by rw [hpb]; exact Whole.made _ _ _⟩ ?_
   rintro w3 ⟨_, hn3, hb3⟩
   have HP0 : Hid (PoJ w2.heap.size pb pf po es w2 none 0 0 w3) := Lib.hid ⟨hn3, hb3, ⟨rfl, .inl ⟨rfl, rfl⟩⟩, Nat.le_refl _, by rw [hpb]; exact Nat.le_refl _⟩
   clear hn3 hb3 hpb ec1 ec2 er1 er2 ep ep2 hf0b
   go_wp2_with fail
   go_loopw [12] (fun s12 wr => ∃ (i : Nat) (A : Option Addr) (c : Nat), i ≤ n ∧ s12 = vi i ∧ PoJ w2.heap.size pb pf po es w2 A i c wr) (fun s12 _ => n - (intOf s12).toNat)
   case atStart => exact ⟨0, none, 0, Nat.zero_le _, rfl, HP0.out⟩
   case round =>
    obtain ⟨i, A, c, hi, rfl, hj⟩ := hrel
    have HJ := Lib.hid hj
    have HBS := Lib.hid (HB2.out.below hj.nw HB2.out.lt)
    have hbs := HBS.out
    have hbn : Whole wr w.heap.size 26 #[.slice y.sa n y.sc, vi y.s.strain, .slice y.ta y.s.tools.length y.tc, vi y.s.day, .slice y.ra y.s.reads.length y.rc] := by rw [HNN.out]; exact hbs
    have x0 := hbn.at 0 (v := .slice y.sa n y.sc) rfl
    have x1 := hbn.at 1 (v := vi y.s.strain) rfl
    have x2 := hbn.at 2 (v := .slice y.ta y.s.tools.length y.tc) rfl
    have x3 := hbn.at 3 (v := vi y.s.day) rfl
    have x4 := hbn.at 4 (v := .slice y.ra y.s.reads.length y.rc) rfl
    clear hbs hbn
    by_cases hlt : i < n
    case pos =>
     have hin : (i : Int) < n := by omega
     have hee := HES.out.2 i hlt
     have hmul0 : 0 ≤ y.s.strain * (i : Int) := Int.mul_nonneg hst.1 (by omega)
     have hmul1 : y.s.strain * (i : Int) ≤ 60 * (i : Int) := Int.mul_le_mul_of_nonneg_right hst.2 (by omega)
     obtain ⟨sm, hsm⟩ : ∃ q, q = y.s.strain * (i : Int) := ⟨_, rfl⟩
     rw [← hsm] at hmul0 hmul1 hee
     have hsmb : 0 ≤ sm ∧ sm ≤ 360 := by omega
     have ew1 : IntKind.i64.wrap (y.s.strain * (i : Int)) = sm := by rw [← hsm]; exact IntWalk.i64_in _ (by omega)
     obtain ⟨v, hv⟩ : ∃ q, q = 6 + sm := ⟨_, rfl⟩
     rw [← hv] at hee
     have ew2 : IntKind.i64.wrap (6 + sm) = v := by rw [hv]; exact IntWalk.i64_in _ (by omega)
     have HEE := Lib.hid hee
     have q0 := hj.bx.at 0 (v := .slice A i c) rfl
     have HV1 : Hid (Whole (wr.alloc (.cells #[vi v] 3)) wr.heap.size 3 #[vi v]) := Lib.hid (Whole.made _ _ _)
     have HJ3 := Lib.hid (hj.next (newer_allocH wr (.cells #[vi v] 3)))
     have HSZ := Lib.hid (show w2.heap.size ≤ (wr.alloc (.cells #[vi v] 3)).heap.size by have := hj.nw.size; rw [World.size_alloc]; omega)
     have hi6 : i ≤ 6 := by omega
     clear hee hj hmul0 hmul1 hsm hsmb hv
     go_upto_region 6 with (at_builtin; go_loud ((refine wpList_plain rfl fun _ hK => wp_append_one (.tmp 55) (.tmp 61) 24 rfl w2.heap.size 3 i0 (.int .i64 0) 8 Try.underlying24 HI.out.1 HI.out.2.1 HI.out.2.2.1 HI.out.2.2.2 rfl A i c ((es.take i).map vi) rfl HJ3.out.own ⟨wr.heap.size, 0, none⟩ 1 (vi v) rfl (HV1.out.at 0 rfl) rfl (by unfold maxLen; omega) (by omega) HSZ.out fun g2 c3 w10 hown hwh => hK _ _ ?_); have HQ := Lib.hid (HJ3.out.app hown hwh HEE.out); have q1 := HQ.out.1.free 0; have q2 := HQ.out.1.at 0 (v := .slice A i c) rfl; clear hown hwh))
     clear q0 q1 q2 x0 x1 x2 x3 x4
     go_wp2_with fail
     refine ⟨⟨i + 1, some ⟨g2, 0, none⟩, c3, by omega, rfl, HQ.out.2⟩, ?_⟩
     simp [intOf]
     omega
    case neg =>
     obtain rfl : n = i := by omega
     have hge : ¬ (n : Int) < n := by omega
     go_upto_region 8 with fail
     obtain ⟨w4, rfl⟩ : ∃ v, v = wr := ⟨_, rfl⟩
     have HN4 := Lib.hid (newer_trans HE.out hj.nw)
     have HB4 : Hid (Whole w4 w.heap.size 26 (smC y)) := Lib.hid HBS.out
     obtain ⟨X, hX⟩ : ∃ X : Pm, X = ⟨postW y.s fall out, A, c⟩ := ⟨_, rfl⟩
     have hXe : X.p.es = es := by rw [hX]; exact HESQ.out.symm
     have hXv : pmV X = .agg #[.slice A n c, vi 60, vi 60, vi pf, vi po, vi 1] := by
      have e1 : X.p.es.length = n := by rw [hXe]; exact HES.out.1
      have e2 : X.a = A := by rw [hX]
      have e3 : X.c = c := by rw [hX]
      have e4 : X.p.fall = pf := by rw [hX, HPF.out.1]; rfl
      have e5 : X.p.out = po := by rw [hX, HPF.out.2]; rfl
      have e6 : X.p.g = 60 ∧ X.p.d = 60 ∧ X.p.ah = 1 := by rw [hX]; exact ⟨rfl, rfl, rfl⟩
      show Value.agg #[.slice X.a X.p.es.length X.c, vi X.p.g, vi X.p.d, vi X.p.fall, vi X.p.out, vi X.p.ah] = _
      rw [e1, e2, e3, e4, e5, e6.1, e6.2.1, e6.2.2]
     have hXo : PmAt X w4 := by
      show Row intL 1 w4 w4.heap.size X.a X.p.es
      rw [hXe, show X.a = A by rw [hX]]
      have h1 := hj.own
      rw [List.take_of_length_le (by rw [HES.out.1]; exact Nat.le_refl _), ← map_vi] at h1
      exact row_of_own (enc := intL) (size := 1) (by decide) (fun _ => rfl) h1
     have HPX := Lib.hid (And.intro hXv (And.intro hXo (show X.p = postW y.s fall out by rw [hX])))
     have HPB := Lib.hid hj.bx
     have HPL := Lib.hid (show X.p.out = po ∧ X.p.fall = pf by rw [hX, HPF.out.1, HPF.out.2]; exact ⟨rfl, rfl⟩)
     obtain ⟨hm, hhm⟩ : ∃ q, q = 1 + hrs % 4 := ⟨_, rfl⟩
     have hmb : 1 ≤ hm ∧ hm ≤ 4 := by omega
     obtain ⟨m4, hm4⟩ : ∃ q : Int, q = ((hrs % 4 : Nat) : Int) := ⟨_, rfl⟩
     have em1 : IntKind.i64.wrap (hrs : Int) = hrs := IntWalk.i64_in _ (by omega)
     have em2 : (hrs : Int).tmod 4 = m4 := by rw [hm4, Int.tmod_eq_emod_of_nonneg (by omega)]; exact (Int.natCast_emod _ _).symm
     have em3 : 1 + m4 = (hm : Int) := by omega
     have em4 : IntKind.i64.wrap (1 + m4) = (hm : Int) := by rw [← em3]; exact IntWalk.i64_in _ (by omega)
     clear hX hXe hXv hXo hhm hm4 hj hlt x0 x1 x2 x3 x4 HJ HBS HP0
     go_wp2_with fail
     go_loopw [13, 14, 15, 16, 17, 18, 19, 20, 21, 22, 23, 24, 25] (fun s13 s14 s15 _ _ _ _ _ _ _ _ _ _ wr => ∃ (k : Nat) (A1 : Option Addr) (c1 : Nat) (A2 : Option Addr) (c2 : Nat) (us : List Ln) (R : List (List Int)) (vs : List Int), k ≤ hm ∧ s15 = vi k ∧ s13 = .slice A1 k c1 ∧ s14 = .slice A2 k c2 ∧ HrJ y.s w4 k A1 c1 A2 c2 us R vs wr) (fun _ _ s15 _ _ _ _ _ _ _ _ _ _ _ => hm - (intOf s15).toNat)
     case atStart => exact ⟨0, none, 0, none, 0, [], [], [], Nat.zero_le _, rfl, rfl, rfl, HrJ.start _ _⟩
     case round =>
      obtain ⟨k, A1, c1, A2, c2, us, R, vs, hk, rfl, rfl, rfl, hj⟩ := hrel
      obtain ⟨wo, rfl⟩ : ∃ v, v = wr := ⟨_, rfl⟩
      have HH := Lib.hid hj
      have HNO := Lib.hid (newer_trans HN4.out hj.nw)
      have HBO := Lib.hid (HB4.out.below hj.nw HB4.out.lt)
      by_cases hlt : k < hm
      case pos =>
       have hkm : (k : Int) < hm := by omega
       have hk3 : k ≤ 3 := by omega
       have x0 := HBO.out.at 0 (v := .slice y.sa y.s.spots.length y.sc) rfl
       have x1 := HBO.out.at 1 (v := vi y.s.strain) rfl
       have x2 := HBO.out.at 2 (v := .slice y.ta y.s.tools.length y.tc) rfl
       have x3 := HBO.out.at 3 (v := vi y.s.day) rfl
       have x4 := HBO.out.at 4 (v := .slice y.ra y.s.reads.length y.rc) rfl
       have e13 : IntKind.i64.wrap (13 * (k : Int)) = 13 * k := IntWalk.i64_in _ (by omega)
       have HMV : Hid (Calls Try.prog 20 #[smV y, .slice B ws.length bc, vi (13 * (k : Int))] wo (MovedR y (fun i => wordK ws (13 * k + i)) wo)) := Lib.hid (by
        have h := moved_any y ws B bc (13 * k) wo (by omega) (HOK.out.next HNO.out) HSD.out HWL.out ((HR.out.below HNO.out).more HNO.out.size)
        rw [show ((13 * k : Nat) : Int) = 13 * (k : Int) by omega] at h
        exact h)
       clear hj
       go_wp2_with fail
       refine HMV.out.mono ?_
       rintro e w5 hT
       clear x0 x1 x2 x3 x4 e13 HMV
       rcases hT with ⟨f, fa, fc, hT1, rfl, hT2, hn5⟩ | ⟨_, rfl, hn5⟩
       case inr =>
        have HN5 := Lib.hid (newer_trans HNO.out hn5)
        clear hn5
        go_wp2_with fail
        refine (watches_any _).mono ?_
        rintro e wk ⟨rfl, hb⟩
        have HK := Lib.hid (newer_trans (HN5.out) hb)
        clear hb
        go_wp2_with fail
        go_ret
        exact ⟨rfl, HK.out⟩
       case inl =>
        have hmf := moved_field hT1
        obtain ⟨fb, rfl, hfb⟩ := own_some hT2 (by rw [hmf.1]; exact HSD.out.spots.1)
        have HF := Lib.hid hmf
        have HFO := Lib.hid hT2
        have HFB := Lib.hid (show wo.heap.size ≤ fb from hfb)
        have HN5 := Lib.hid (newer_trans HNO.out hn5)
        have HB5 := Lib.hid (HBO.out.below hn5 HBO.out.lt)
        have H5 := Lib.hid hn5
        clear hT1 hT2 hn5 hmf hfb
        have x0 := HB5.out.at 0 (v := .slice y.sa y.s.spots.length y.sc) rfl
        have x1 := HB5.out.at 1 (v := vi y.s.strain) rfl
        have x2 := HB5.out.at 2 (v := .slice y.ta y.s.tools.length y.tc) rfl
        have x3 := HB5.out.at 3 (v := vi y.s.day) rfl
        have x4 := HB5.out.at 4 (v := .slice y.ra y.s.reads.length y.rc) rfl
        go_wp2_with fail
        refine (survey_any y w5 (HOK.out.next HN5.out) HFW.out).mono ?_
        rintro e w6 ⟨sa, sc, ta, tc, ra, rc, rfl, ho, hn6⟩
        have H6 := Lib.hid (And.intro ho hn6)
        clear ho hn6 x0 x1 x2 x3 x4
        go_upto_region 17 with fail
        obtain ⟨xb, hxb⟩ : ∃ q, q = w6.heap.size := ⟨_, rfl⟩
        rw [← hxb]
        obtain ⟨RH, hRH⟩ : ∃ q, q = readsH y.s f ws k := ⟨_, rfl⟩
        have hRl : RH.length = y.s.reads.length := by rw [hRH, readsH_len]; exact HSD.out.reads.symm
        have HRH := Lib.hid (And.intro hRH hRl)
        refine genQ (fun Y => ToJ y w5 xb sa sc ta tc ra rc RH 0 Y) ?_ ?_
        ·have hn := newer_allocH w6 (.cells #[.slice sa y.s.spots.length sc, vi y.s.strain, .slice ta y.s.tools.length tc, vi y.s.day, .slice ra y.s.reads.length rc] 40)
         exact ⟨newer_trans H6.out.2 hn, by rw [hxb]; exact Whole.made _ _ _, own_below H6.out.1.sp hn, own_below H6.out.1.tl hn, by rw [mixL_zero, ← map_vi]; exact own_below H6.out.1.rd hn⟩
        intro w7 hto
        have HT0 := Lib.hid hto
        clear hto hRl hRH hxb H6
        go_wp2_with fail
        go_loopw [19, 20, 21] (fun s19 _ _ wr => ∃ i : Nat, i ≤ y.s.tools.length ∧ s19 = vi i ∧ InTo RH i ∧ ToJ y w5 xb sa sc ta tc ra rc RH i wr) (fun s19 _ _ _ => y.s.tools.length - (intOf s19).toNat)
        case atStart => exact ⟨0, Nat.zero_le _, rfl, fun j r hj => absurd hj (by omega), HT0.out⟩
        case round =>
         obtain ⟨i, hi, rfl, hin0, hj⟩ := hrel
         have HJ := Lib.hid hj
         have HIN := Lib.hid hin0
         have hrt := HSD.out.reads
         have HRT := Lib.hid hrt
         have HBR := Lib.hid (HB5.out.below hj.nw HB5.out.lt)
         by_cases hlt : i < y.s.tools.length
         case pos =>
          have hin : (i : Int) < y.s.tools.length := by omega
          have hir : (i : Int) < y.s.reads.length := by omega
          obtain ⟨t, ht⟩ : ∃ t, y.s.tools[i]? = some t := ⟨_, List.getElem?_eq_getElem hlt⟩
          have hto := HSD.out.tool t (List.mem_of_getElem? ht)
          have hnwr := newer_trans HN5.out hj.nw
          obtain ⟨tb, tof, et, htb, t0, t1, t2, t3, t4, t5, t6⟩ := row7 (HOK.out.tl.below hnwr) ht
          have x2 := HBR.out.at 2 (v := .slice y.ta y.s.tools.length y.tc) rfl
          have x3 := HBR.out.at 3 (v := vi y.s.day) rfl
          rw [et] at x2
          obtain ⟨g, era, hg⟩ := own_some hj.rd (show 0 < y.s.reads.length by omega)
          have hrd := hj.rd
          rw [era] at hrd
          obtain ⟨cs, hcs⟩ := own_cells hrd
          have HCS := Lib.hid hcs
          have HER := Lib.hid era
          have hval := readsH_at (s := y.s) (f := f) (ws := ws) (h := k) ht
          rw [← HRH.out.1] at hval
          have HTO := Lib.hid hto
          have hday := HSD.out.day
          have HRO := Lib.hid (fun W => refOff_any t y.s.day W (by have := hto.err; omega) (by have := hto.drift; omega) (by have := hto.since; omega) (by omega))
          unfold readH at hval
          obtain ⟨off, hoff⟩ : ∃ q, q = offN t y.s.day := ⟨_, rfl⟩
          have hob := off_bd hto hday.1 hday.2
          rw [← hoff] at hob HRO hval
          have hi8 : i ≤ 8 := by have := HSD.out.few; omega
          clear hin0 ht hnwr et hrd hcs hto hday hoff hj hrt era hlt
          go_upto_region 21 with fail
          obtain ⟨gt, hgt⟩ : ∃ r, r = wr.heap.size := ⟨_, rfl⟩
          rw [← hgt]
          refine genQ (fun Y => newer wr Y ∧ Whole Y gt 43 (tlC t)) ⟨newer_allocH _ _, by rw [hgt]; exact Whole.made _ _ _⟩ ?_
          rintro wa ⟨hna, hta⟩
          have HWA := Lib.hid (And.intro hna hta)
          clear t0 t1 t2 t3 t4 t5 t6 x2 x3 hgt hna
          have x3 := (HBR.out.below HWA.out.1 HBR.out.lt).at 3 (v := vi y.s.day) rfl
          have t0 := hta.at 0 (v := vi t.spot) rfl
          have t1 := hta.at 1 (v := vi t.a) rfl
          have t2 := hta.at 2 (v := vi t.b) rfl
          have t3 := hta.at 3 (v := vi t.turn) rfl
          have t4 := hta.at 4 (v := vi t.err) rfl
          have t5 := hta.at 5 (v := vi t.drift) rfl
          have t6 := hta.at 6 (v := vi t.since) rfl
          clear hta
          go_upto_region 22 with (refine (HRO.out _).mono ?_; rintro e w8 ⟨rfl, hb⟩)
          have HW8 := Lib.hid (newer_trans HWA.out.1 hb)
          have ht8 := HWA.out.2.below hb HWA.out.2.lt
          have z4 := (HJ.out.bx.below HW8.out HJ.out.bx.lt).at 4 (v := .slice ra y.s.reads.length rc) rfl
          rw [HER.out] at z4
          clear x3 t0 t1 t2 t3 t4 t5 t6 hb
          have t0 := ht8.at 0 (v := vi t.spot) rfl
          have t1 := ht8.at 1 (v := vi t.a) rfl
          have t2 := ht8.at 2 (v := vi t.b) rfl
          have t3 := ht8.at 3 (v := vi t.turn) rfl
          have t4 := ht8.at 4 (v := vi t.err) rfl
          have t5 := ht8.at 5 (v := vi t.drift) rfl
          have t6 := ht8.at 6 (v := vi t.since) rfl
          clear ht8
          obtain ⟨spn, hsp⟩ : ∃ q : Nat, t.spot = q := ⟨t.spot.toNat, by have := HTO.out.spot; omega⟩
          have hspn : spn < f.length := by have := HTO.out.spot; have := HF.out.1; omega
          have hsl : (spn : Int) < f.length := by omega
          obtain ⟨m, hmm⟩ : ∃ m, f[spn]? = some m := ⟨_, List.getElem?_eq_getElem hspn⟩
          have hfm : fnL f t.spot.toNat = m := by rw [hsp]; exact fnL_at hmm
          have hfro := row_of_own (enc := mvL) (size := 2) (by decide) (fun _ => rfl) HFO.out
          obtain ⟨fb', fo', ef, _, m0, m1⟩ := row2 (hfro.below (newer_trans HJ.out.nw HW8.out)) hmm
          injection ef with ef
          injection ef with ef1 ef2
          subst ef1
          subst ef2
          rw [Nat.zero_add] at m0 m1
          have hmb2 := FieldIn.bd HSD.out HF.out.2 (i := t.spot.toNat) (by have := HTO.out.spot; omega)
          rw [hfm] at hmb2 hval
          have hsb := sight_bd HTO.out hmb2.1 hmb2.2
          obtain ⟨sg, hsg⟩ : ∃ q, q = sightN t m := ⟨_, rfl⟩
          have HSG : Hid (∀ W, Calls Try.prog 23 #[tlV t, mvV m] W fun e w' => e = .returned (vi sg) ∧ newer W w') := Lib.hid (fun W => by rw [hsg]; exact refSight_any t m W (by have := HTO.out.a; omega) (by have := HTO.out.b; omega) (by omega) (by omega))
          rw [← hsg] at hsb hval
          obtain ⟨wA, hwA⟩ : ∃ q, q = wordK ws (7 * k + i) := ⟨_, rfl⟩
          obtain ⟨wB, hwB⟩ : ∃ q, q = wordK ws (5 * k + i) := ⟨_, rfl⟩
          have hwAb := wordK_bd ws (7 * k + i)
          have hwBb := wordK_bd ws (5 * k + i)
          rw [← hwA] at hwAb hval
          rw [← hwB] at hwBb hval
          have HPA : Hid (∀ W, newer wr W → Calls Try.prog 24 #[.slice B ws.length bc, vi (7 * (k : Int) + i)] W fun e w' => e = .returned (vi wA) ∧ newer W w') := Lib.hid (fun W hW => by
           have hn := newer_trans HN5.out (newer_trans HJ.out.nw hW)
           have h := word_any ws B bc (7 * k + i) W HWL.out (by omega) ((HR.out.below hn).more hn.size)
           rw [show ((7 * k + i : Nat) : Int) = 7 * (k : Int) + i by omega] at h
           rw [hwA]
           exact h)
          have HPB2 : Hid (∀ W, newer wr W → Calls Try.prog 24 #[.slice B ws.length bc, vi (5 * (k : Int) + i)] W fun e w' => e = .returned (vi wB) ∧ newer W w') := Lib.hid (fun W hW => by
           have hn := newer_trans HN5.out (newer_trans HJ.out.nw hW)
           have h := word_any ws B bc (5 * k + i) W HWL.out (by omega) ((HR.out.below hn).more hn.size)
           rw [show ((5 * k + i : Nat) : Int) = 5 * (k : Int) + i by omega] at h
           rw [hwB]
           exact h)
          have e71 : IntKind.i64.wrap (7 * (k : Int)) = 7 * k := IntWalk.i64_in _ (by omega)
          have e72 : IntKind.i64.wrap (7 * (k : Int) + i) = 7 * k + i := IntWalk.i64_in _ (by omega)
          have e51 : IntKind.i64.wrap (5 * (k : Int)) = 5 * k := IntWalk.i64_in _ (by omega)
          have e52 : IntKind.i64.wrap (5 * (k : Int) + i) = 5 * k + i := IntWalk.i64_in _ (by omega)
          obtain ⟨rA, hrA⟩ : ∃ q, q = wA % (2 * off + 1) := ⟨_, rfl⟩
          obtain ⟨rB, hrB⟩ : ∃ q, q = wB % 5 := ⟨_, rfl⟩
          have erA : wA.tmod (2 * off + 1) = rA := by rw [hrA, Int.tmod_eq_emod_of_nonneg hwAb.1]
          have erB : wB.tmod 5 = rB := by rw [hrB, Int.tmod_eq_emod_of_nonneg hwBb.1]
          have hrAb : 0 ≤ rA ∧ rA ≤ 460 := by rw [hrA]; have h1 := Int.emod_nonneg wA (show 2 * off + 1 ≠ 0 by omega); have h2 := Int.emod_lt_of_pos wA (show 0 < 2 * off + 1 by omega); omega
          have hrBb : 0 ≤ rB ∧ rB ≤ 4 := by rw [hrB]; omega
          have ezA : ¬ (2 * off + 1 = 0) := by omega
          rw [← hrA, ← hrB] at hval
          have htu := HTO.out.turn
          obtain ⟨T, hTe⟩ : ∃ q, q = t.turn := ⟨_, rfl⟩
          rw [← hTe] at htu hval t3
          have hmul := mulb (a := T) (x := rB - 2) (A := 200) (X := 2) (by omega) (by omega)
          obtain ⟨pT, hpT⟩ : ∃ q, q = T * (rB - 2) := ⟨_, rfl⟩
          rw [← hpT] at hmul hval
          have hpb2 : -400 ≤ pT ∧ pT ≤ 400 := by omega
          obtain ⟨v, hv⟩ : ∃ q, q = sg - off + rA + pT := ⟨_, rfl⟩
          have ed1 : IntKind.i64.wrap (sg - off) = sg - off := IntWalk.i64_in _ (by omega)
          have ed2 : IntKind.i64.wrap (2 * off) = 2 * off := IntWalk.i64_in _ (by omega)
          have ed3 : IntKind.i64.wrap (2 * off + 1) = 2 * off + 1 := IntWalk.i64_in _ (by omega)
          have ed4 : IntKind.i64.wrap (sg - off + rA) = sg - off + rA := IntWalk.i64_in _ (by omega)
          have ed5 : IntKind.i64.wrap (rB - 2) = rB - 2 := IntWalk.i64_in _ (by omega)
          have ed6 : IntKind.i64.wrap (T * (rB - 2)) = pT := by rw [← hpT]; exact IntWalk.i64_in _ (by omega)
          have ed7 : IntKind.i64.wrap (sg - off + rA + pT) = v := by rw [hv]; exact IntWalk.i64_in _ (by omega)
          rw [← hv] at hval
          have HVL := Lib.hid hval
          have HVB : Hid (-100000 ≤ v ∧ v ≤ 100000) := Lib.hid (by omega)
          rw [hsp] at t0
          have HSP := Lib.hid hsp
          have HTE := Lib.hid hTe
          clear hspn hmm hfm hfro hmb2 hsb hsg hwA hwB hwAb hwBb hrA hrB hTe hmul hpT hv hval hsp hob hrAb hrBb htu hpb2
          go_upto_region 22 with fail
          refine wp_words (by kernel_rfl) (region_told 36 (by kernel_rfl) (by kernel_rfl) (fun W => Below w8.heap.size w8 W) newer (pickD [vIs (.pointer (some ⟨xb, 4, none⟩)), vIs (.slice (some ⟨g, 0, none⟩) y.s.reads.length rc), vIs (.int .i64 i), vIs (tlV t), vIs (.slice (some ⟨fb, 0, none⟩) f.length fc), vIs (.pointer (some ⟨gt, 0, none⟩)), vIs (.int .i64 spn), vIs (.pointer (some ⟨fb, spn * 2, none⟩)), vIs (mvV m), vIs (vi sg), vIs (vi off), vIs (vi (sg - off)), vIs (.slice B ws.length bc), vIs (.int .i64 k), vIs (vi (7 * k)), vIs (.int .i64 i), vIs (vi (7 * k + i)), vIs (vi wA), vIs (vi off), vIs (vi (2 * off)), vIs (vi (2 * off + 1)), vIs (vi rA), vIs (vi (sg - off + rA)), vIs (.pointer (some ⟨gt, 3, none⟩)), vIs (vi T), vIs (.slice B ws.length bc), vIs (.int .i64 k), vIs (vi (5 * k)), vIs (.int .i64 i), vIs (vi (5 * k + i)), vIs (vi wB), vIs (vi rB), vIs (vi (rB - 2)), vIs (vi pT), vIs (vi v), vIs (.pointer (some ⟨g, i, none⟩))]) (fun h k => newer_trans h k) (pickD_stable _ ⟨vIs_st, vIs_st, vIs_st, vIs_st, vIs_st, vIs_st, vIs_st, vIs_st, vIs_st, vIs_st, vIs_st, vIs_st, vIs_st, vIs_st, vIs_st, vIs_st, vIs_st, vIs_st, vIs_st, vIs_st, vIs_st, vIs_st, vIs_st, vIs_st, vIs_st, vIs_st, vIs_st, vIs_st, vIs_st, vIs_st, vIs_st, vIs_st, vIs_st, vIs_st, vIs_st, vIs_st, trivial⟩) (Below.refl _ w8).drew (Below.refl _ _) ?_ ?_)
          ·refine ⟨?_, ?_, ?_, ?_, ?_, ?_, ?_, ?_, ?_, ?_, ?_, ?_, ?_, ?_, ?_, ?_, ?_, ?_, ?_, ?_, ?_, ?_, ?_, ?_, ?_, ?_, ?_, ?_, ?_, ?_, ?_, ?_, ?_, ?_, ?_, ?_, trivial⟩
           ·intro a W hG hR hO hp; have h18 := hO.slot 18 (by kernel_rfl); refine kY (v := .pointer (some ⟨xb, 4, none⟩)) hG rfl ?_; simp [slotOf] at h18; simp [execOp, go_sem, h18]
           ·intro a W hG hR hO hp; have h101 : slotOf a 101 = .pointer (some ⟨xb, 4, none⟩) := hp.1; have c0 := keep_cell z4 hG; refine kY (v := .slice (some ⟨g, 0, none⟩) y.s.reads.length rc) hG rfl ?_; simp [slotOf] at h101; simp [execOp, go_sem, h101, c0]
           ·exact fun a W hG _ hO _ => kM 19 rfl (hO.slot 19 (by kernel_rfl)) rfl hG
           ·intro a W hG hR hO hp; have h20 := hO.slot 20 (by kernel_rfl); have c0 := keep_cell t0 hG; have c1 := keep_cell t1 hG; have c2 := keep_cell t2 hG; have c3 := keep_cell t3 hG; have c4 := keep_cell t4 hG; have c5 := keep_cell t5 hG; have c6 := keep_cell t6 hG; refine kY (v := tlV t) hG rfl ?_; simp [slotOf] at h20; simp [execOp, go_sem, h20, c0, c1, c2, c3, c4, c5, c6, HSP.out, HTE.out.symm]
           ·exact fun a W hG _ hO _ => kM 16 rfl (hO.slot 16 (by kernel_rfl)) rfl hG
           ·intro a W hG hR hO hp; have h20 := hO.slot 20 (by kernel_rfl); refine kY (v := .pointer (some ⟨gt, 0, none⟩)) hG rfl ?_; simp [slotOf] at h20; simp [execOp, go_sem, h20]
           ·intro a W hG hR hO hp; have h106 : slotOf a 106 = .pointer (some ⟨gt, 0, none⟩) := hp.1; have c0 := keep_cell t0 hG; refine kY (v := .int .i64 spn) hG rfl ?_; simp [slotOf] at h106; simp [execOp, go_sem, h106, c0]
           ·intro a W hG hR hO hp; have h105 : slotOf a 105 = .slice (some ⟨fb, 0, none⟩) f.length fc := hp.1; have h107 : slotOf a 107 = .int .i64 spn := hp.2.1; refine kY (v := .pointer (some ⟨fb, spn * 2, none⟩)) hG rfl ?_; simp [slotOf] at h105 h107; simp [execOp, go_sem, h105, h107, hsl]
           ·intro a W hG hR hO hp; have h108 : slotOf a 108 = .pointer (some ⟨fb, spn * 2, none⟩) := hp.1; have c0 := keep_cell m0 hG; have c1 := keep_cell m1 hG; refine kY (v := mvV m) hG rfl ?_; simp [slotOf] at h108; simp [execOp, go_sem, h108, c0, c1]
           ·intro a W hG hR hO hp
            have h104 : slotOf a 104 = tlV t := hp.1
            have h109 : slotOf a 109 = mvV m := hp.2.1
            refine wp_enters (f := 23) (args := #[tlV t, mvV m]) ?_ ((HSG.out W).mono ?_)
            ·simp [slotOf] at h104 h109
             simp [go_sem, h104, h109]
            ·rintro e w' ⟨rfl, hb⟩
             exact ⟨_, rfl, _, rfl, rfl, hb, below_next hG hb⟩
           ·exact fun a W hG _ hO _ => kM 21 rfl (hO.slot 21 (by kernel_rfl)) rfl hG
           ·intro a W hG hR hO hp; have h110 : slotOf a 110 = vi sg := hp.1; have h111 : slotOf a 111 = vi off := hp.2.1; refine kY (v := vi (sg - off)) hG rfl ?_; simp [slotOf] at h110 h111; simp [execOp, go_sem, h110, h111, ed1]
           ·exact fun a W hG _ hO _ => kM 4 rfl (hO.slot 4 (by kernel_rfl)) rfl hG
           ·exact fun a W hG _ hO _ => kM 15 rfl (hO.slot 15 (by kernel_rfl)) rfl hG
           ·intro a W hG hR hO hp; have h114 : slotOf a 114 = .int .i64 k := hp.1; refine kY (v := vi (7 * k)) hG rfl ?_; simp [slotOf] at h114; simp [execOp, go_sem, h114, e71]
           ·exact fun a W hG _ hO _ => kM 19 rfl (hO.slot 19 (by kernel_rfl)) rfl hG
           ·intro a W hG hR hO hp; have h115 : slotOf a 115 = vi (7 * k) := hp.1; have h116 : slotOf a 116 = .int .i64 i := hp.2.1; refine kY (v := vi (7 * k + i)) hG rfl ?_; simp [slotOf] at h115 h116; simp [execOp, go_sem, h115, h116, e72]
           ·intro a W hG hR hO hp
            have h113 : slotOf a 113 = .slice B ws.length bc := hp.1
            have h117 : slotOf a 117 = vi (7 * k + i) := hp.2.1
            refine wp_enters (f := 24) (args := #[.slice B ws.length bc, vi (7 * (k : Int) + i)]) ?_ ((HPA.out W (newer_trans HW8.out hG)).mono ?_)
            ·simp [slotOf] at h113 h117
             simp [go_sem, h113, h117]
            ·rintro e w' ⟨rfl, hb⟩
             exact ⟨_, rfl, _, rfl, rfl, hb, below_next hG hb⟩
           ·exact fun a W hG _ hO _ => kM 21 rfl (hO.slot 21 (by kernel_rfl)) rfl hG
           ·intro a W hG hR hO hp; have h119 : slotOf a 119 = vi off := hp.1; refine kY (v := vi (2 * off)) hG rfl ?_; simp [slotOf] at h119; simp [execOp, go_sem, h119, ed2]
           ·intro a W hG hR hO hp; have h120 : slotOf a 120 = vi (2 * off) := hp.1; refine kY (v := vi (2 * off + 1)) hG rfl ?_; simp [slotOf] at h120; simp [execOp, go_sem, h120, ed3]
           ·intro a W hG hR hO hp; have h118 : slotOf a 118 = vi wA := hp.1; have h121 : slotOf a 121 = vi (2 * off + 1) := hp.2.1; refine kY (v := vi rA) hG rfl ?_; simp [slotOf] at h118 h121; simp [execOp, go_sem, h118, h121, erA, ezA]
           ·intro a W hG hR hO hp; have h112 : slotOf a 112 = vi (sg - off) := hp.1; have h122 : slotOf a 122 = vi rA := hp.2.1; refine kY (v := vi (sg - off + rA)) hG rfl ?_; simp [slotOf] at h112 h122; simp [execOp, go_sem, h112, h122, ed4]
           ·intro a W hG hR hO hp; have h20 := hO.slot 20 (by kernel_rfl); refine kY (v := .pointer (some ⟨gt, 3, none⟩)) hG rfl ?_; simp [slotOf] at h20; simp [execOp, go_sem, h20]
           ·intro a W hG hR hO hp; have h124 : slotOf a 124 = .pointer (some ⟨gt, 3, none⟩) := hp.1; have c0 := keep_cell t3 hG; refine kY (v := vi T) hG rfl ?_; simp [slotOf] at h124; simp [execOp, go_sem, h124, c0]
           ·exact fun a W hG _ hO _ => kM 4 rfl (hO.slot 4 (by kernel_rfl)) rfl hG
           ·exact fun a W hG _ hO _ => kM 15 rfl (hO.slot 15 (by kernel_rfl)) rfl hG
           ·intro a W hG hR hO hp; have h127 : slotOf a 127 = .int .i64 k := hp.1; refine kY (v := vi (5 * k)) hG rfl ?_; simp [slotOf] at h127; simp [execOp, go_sem, h127, e51]
           ·exact fun a W hG _ hO _ => kM 19 rfl (hO.slot 19 (by kernel_rfl)) rfl hG
           ·intro a W hG hR hO hp; have h128 : slotOf a 128 = vi (5 * k) := hp.1; have h129 : slotOf a 129 = .int .i64 i := hp.2.1; refine kY (v := vi (5 * k + i)) hG rfl ?_; simp [slotOf] at h128 h129; simp [execOp, go_sem, h128, h129, e52]
           ·intro a W hG hR hO hp
            have h126 : slotOf a 126 = .slice B ws.length bc := hp.1
            have h130 : slotOf a 130 = vi (5 * k + i) := hp.2.1
            refine wp_enters (f := 24) (args := #[.slice B ws.length bc, vi (5 * (k : Int) + i)]) ?_ ((HPB2.out W (newer_trans HW8.out hG)).mono ?_)
            ·simp [slotOf] at h126 h130
             simp [go_sem, h126, h130]
            ·rintro e w' ⟨rfl, hb⟩
             exact ⟨_, rfl, _, rfl, rfl, hb, below_next hG hb⟩
           ·intro a W hG hR hO hp; have h131 : slotOf a 131 = vi wB := hp.1; refine kY (v := vi rB) hG rfl ?_; simp [slotOf] at h131; simp [execOp, go_sem, h131, erB]
           ·intro a W hG hR hO hp; have h132 : slotOf a 132 = vi rB := hp.1; refine kY (v := vi (rB - 2)) hG rfl ?_; simp [slotOf] at h132; simp [execOp, go_sem, h132, ed5]
           ·intro a W hG hR hO hp; have h125 : slotOf a 125 = vi T := hp.1; have h133 : slotOf a 133 = vi (rB - 2) := hp.2.1; refine kY (v := vi pT) hG rfl ?_; simp [slotOf] at h125 h133; simp [execOp, go_sem, h125, h133, ed6]
           ·intro a W hG hR hO hp; have h123 : slotOf a 123 = vi (sg - off + rA) := hp.1; have h134 : slotOf a 134 = vi pT := hp.2.1; refine kY (v := vi v) hG rfl ?_; simp [slotOf] at h123 h134; simp [execOp, go_sem, h123, h134, ed7]
           ·intro a W hG hR hO hp; have h102 : slotOf a 102 = .slice (some ⟨g, 0, none⟩) y.s.reads.length rc := hp.1; have h103 : slotOf a 103 = .int .i64 i := hp.2.1; refine kY (v := .pointer (some ⟨g, i, none⟩)) hG rfl ?_; simp [slotOf] at h102 h103; simp [execOp, go_sem, h102, h103, hir]
          ·intro w9 hG hR
           rintro _ rfl _ rfl _ rfl _ rfl _ rfl _ rfl _ rfl _ rfl _ rfl _ rfl _ rfl _ rfl _ rfl _ rfl _ rfl _ rfl _ rfl _ rfl _ rfl _ rfl _ rfl _ rfl _ rfl _ rfl _ rfl _ rfl _ rfl _ rfl _ rfl _ rfl _ rfl _ rfl _ rfl _ rfl _ rfl _ rfl
           change wpList _ _ _ _ _ _
           simp only [Act.put, List.setIfInBounds_toArray, List.set_cons_zero, List.set_cons_succ, List.drop_succ_cons, List.drop_zero]
           have HN98 := Lib.hid (newer_trans HW8.out hG)
           have hj9 := HJ.out.next HN98.out
           have HJ9 := Lib.hid hj9
           have hcs9 := HCS.out.below HN98.out HCS.out.lt
           have rf := hcs9.free i
           obtain ⟨r, hr0⟩ : ∃ r, (mixL RH y.s.reads i)[i]? = some r := ⟨_, List.getElem?_eq_getElem (by rw [mixL_len HRH.out.2]; omega)⟩
           obtain ⟨g', o', eg, _, r0⟩ := row1 (row_of_own (enc := intL) (size := 1) (by decide) (fun _ => rfl) (by rw [map_vi]; exact hj9.rd)) hr0
           rw [HER.out] at eg
           injection eg with eg
           injection eg with e1 e2
           subst e1
           subst e2
           rw [Nat.zero_add] at r0
           clear hG hR t0 t1 t2 t3 t4 t5 t6 z4 m0 m1 hj9 hcs9 hr0 e71 e72 e51 e52 erA erB ezA ed1 ed2 ed3 ed4 ed5 ed6 ed7
           go_upto_region 23 with fail
           refine genQ (fun Y => ToJ y w5 xb sa sc ta tc ra rc RH (i + 1) Y) (HJ9.out.set HER.out HVL.out HRH.out.2) ?_
           intro wq hq
           have HQ := Lib.hid hq
           have z4 := hq.bx.at 4 (v := .slice ra y.s.reads.length rc) rfl
           rw [HER.out] at z4
           clear r0 rf
           obtain ⟨g', o', eg, _, r0⟩ := row1 (row_of_own (enc := intL) (size := 1) (by decide) (fun _ => rfl) (by rw [map_vi]; exact hq.rd)) (mixL_at HVL.out)
           rw [HER.out] at eg
           injection eg with eg
           injection eg with e1 e2
           subst e1
           subst e2
           rw [Nat.zero_add] at r0
           clear hq
           have HI2 := Lib.hid (fun W => in_any v (-1000) 1000 W)
           cases hb : inB v (-1000) 1000 with
           | false =>
            rw [hb] at HI2
            clear hb
            go_wp2_with fail
            refine (HI2.out _).mono ?_
            rintro e wz ⟨rfl, rfl⟩
            clear z4 r0
            go_wp2_with fail
            refine (watches_any _).mono ?_
            rintro e wk ⟨rfl, hb⟩
            have HK := Lib.hid (newer_trans (newer_trans HN5.out HQ.out.nw) hb)
            clear hb
            go_wp2_with fail
            go_ret
            exact ⟨rfl, HK.out⟩
           | true =>
            rw [hb] at HI2
            have HBD : Hid (-1000 ≤ v ∧ v ≤ 1000) := Lib.hid (inBH_yes hb)
            clear hb
            go_wp2_with fail
            refine (HI2.out _).mono ?_
            rintro e wz ⟨rfl, rfl⟩
            clear z4 r0
            go_wp2_with fail
            refine ⟨⟨i + 1, by omega, rfl, HIN.out.step HVL.out HBD.out, HQ.out⟩, ?_⟩
            simp [intOf]
            omega
         case neg =>
          have hie : i = y.s.tools.length := by omega
          subst hie
          have hge : ¬ (y.s.tools.length : Int) < y.s.tools.length := by omega
          have x2 := HBR.out.at 2 (v := .slice y.ta y.s.tools.length y.tc) rfl
          clear hj hin0 hlt
          go_upto_region 25 with fail
          obtain ⟨wb, rfl⟩ : ∃ v, v = wr := ⟨_, rfl⟩
          have hj2 : ToJ y w5 xb sa sc ta tc ra rc RH y.s.reads.length wb := by rw [HRT.out]; exact HJ.out
          have hzo := hj2.ok HRH.out.2
          obtain ⟨Z, hZ⟩ : ∃ Z : Sm, Z = ⟨{ y.s with reads := RH }, sa, sc, ta, tc, ra, rc⟩ := ⟨_, rfl⟩
          rw [← hZ] at hzo
          have hZs : Z.s = { y.s with reads := RH } := by rw [hZ]
          have hZv : smV Z = .agg #[.slice sa y.s.spots.length sc, vi y.s.strain, .slice ta y.s.tools.length tc, vi y.s.day, .slice ra y.s.reads.length rc] := by
           rw [hZ]
           show Value.agg #[_, _, _, _, .slice ra RH.length rc] = _
           rw [HRH.out.2]
          have hZf : SmFew Z := ⟨by rw [hZs]; exact HFW.out.sp, by rw [hZs]; exact HFW.out.tl, by rw [hZs]; show RH.length ≤ _; rw [HRH.out.2]; exact HFW.out.rd⟩
          have hall := hour_all HSD.out HF.out.2 (ws := ws) (k := k) (fun j r hj hr => HIN.out j r hj (by rw [HRH.out.1]; exact hr))
          rw [← HRH.out.1] at hall
          obtain ⟨L, hL⟩ : ∃ L, L = knL { y.s with reads := RH } := ⟨_, rfl⟩
          rw [← hL] at hall
          have hLl : L.length = y.s.spots.length := by rw [hL]; exact knK_len _ _
          obtain ⟨hle, hlb, hho⟩ := hall
          have HLX : Hid (Calls Try.prog 26 #[.agg #[.slice sa y.s.spots.length sc, vi y.s.strain, .slice ta y.s.tools.length tc, vi y.s.day, .slice ra y.s.reads.length rc]] wb fun e w' => ∃ B d, e = .returned (.tuple #[.slice B y.s.spots.length d, vi 0]) ∧ w'.ownsRow wb.heap.size 56 4 (.slice B y.s.spots.length d) y.s.spots.length (L.flatMap spL) ∧ newer wb w') := Lib.hid (by
           have h := learn_all Z wb hzo hZf
           rw [hZs, hle.1, hle.2, hZv, hLl] at h
           exact h)
          have HLL := Lib.hid (And.intro hLl (And.intro hlb hho))
          have HNB := Lib.hid (newer_trans HN5.out HJ.out.nw)
          have HBW := Lib.hid (HBR.out)
          have hbx := HJ.out.bx
          have z0 := hbx.at 0 (v := .slice sa y.s.spots.length sc) rfl
          have z1 := hbx.at 1 (v := vi y.s.strain) rfl
          have z2 := hbx.at 2 (v := .slice ta y.s.tools.length tc) rfl
          have z3 := hbx.at 3 (v := vi y.s.day) rfl
          have z4 := hbx.at 4 (v := .slice ra y.s.reads.length rc) rfl
          clear x2 hj2 hzo hZ hZs hZv hZf hL hLl hle hlb hho hbx hrt
          go_wp2_with fail
          refine HLX.out.mono ?_
          rintro e wl ⟨LA, lc, rfl, hlo, hnl⟩
          obtain ⟨lg, rfl, hlg⟩ := own_some hlo HSD.out.spots.1
          have HLO := Lib.hid (And.intro hlo hnl)
          have HLG := Lib.hid ((own_lt hlo) lg rfl)
          have HNL := Lib.hid (newer_trans HNB.out hnl)
          have hbl := HBW.out.below hnl HBW.out.lt
          have x0 := hbl.at 0 (v := .slice y.sa y.s.spots.length y.sc) rfl
          clear hlo hnl hlg hbl z0 z1 z2 z3 z4 HLX
          obtain ⟨mids, hmids⟩ : ∃ q, q = L.map midN := ⟨_, rfl⟩
          have HMI : Hid (mids = L.map midN ∧ mids.length = y.s.spots.length) := Lib.hid ⟨hmids, by rw [hmids, List.length_map]; exact HLL.out.1⟩
          clear hmids
          go_wp2_with fail
          clear x0
          go_loopw [24, 25] (fun s24 s25 wr => ∃ (i : Nat) (A3 : Option Addr) (c3 : Nat), i ≤ y.s.spots.length ∧ s25 = vi i ∧ s24 = .slice A3 i c3 ∧ wr.ownsRow wl.heap.size 3 1 (.slice A3 i c3) i ((mids.take i).flatMap intL) ∧ newer wl wr) (fun _ s25 _ => y.s.spots.length - (intOf s25).toNat)
          case atStart => exact ⟨0, none, 0, Nat.zero_le _, rfl, rfl, ⟨rfl, .inl ⟨rfl, rfl⟩⟩, newer_refl _⟩
          case round =>
           obtain ⟨i, A3, c3, hi, rfl, rfl, ho3, hn3⟩ := hrel
           have HO3 := Lib.hid (And.intro ho3 hn3)
           have hns := HSD.out.spots
           by_cases hlt : i < y.s.spots.length
           case pos =>
            have hil : (i : Int) < y.s.spots.length := by omega
            obtain ⟨p, hp⟩ : ∃ p, L[i]? = some p := ⟨_, List.getElem?_eq_getElem (by rw [HLL.out.1]; exact hlt)⟩
            obtain ⟨lb', lo', el, _, p0, p1, p2, p3⟩ := row4 (row_of_own (enc := spL) (size := 4) (by decide) (fun _ => rfl) (own_below HLO.out.1 hn3)) hp
            injection el with el
            injection el with el1 el2
            subst el1
            subst el2
            rw [Nat.zero_add] at p0 p1 p2 p3
            have hpb := HLL.out.2.1 p (List.mem_of_getElem? hp)
            have c1x : ¬ p.x.lo < -30 := by omega
            have c2x : ¬ 30 < p.x.hi := by omega
            obtain ⟨mid, hmid⟩ : ∃ q, q = midN p := ⟨_, rfl⟩
            have ew1 : IntKind.i64.wrap (p.x.lo + 30) = p.x.lo + 30 := IntWalk.i64_in _ (by omega)
            have ew2 : IntKind.i64.wrap (p.x.lo + 30 + p.x.hi) = p.x.lo + 30 + p.x.hi := IntWalk.i64_in _ (by omega)
            have ew3 : IntKind.i64.wrap (p.x.lo + 30 + p.x.hi + 30) = p.x.lo + 30 + p.x.hi + 30 := IntWalk.i64_in _ (by omega)
            have ew4 : (p.x.lo + 30 + p.x.hi + 30).tdiv 2 = mid := by rw [hmid, Int.tdiv_eq_ediv_of_nonneg (by omega)]; rfl
            have hmb3 : 0 ≤ mid ∧ mid ≤ 1000 := by rw [← ew4, Int.tdiv_eq_ediv_of_nonneg (by omega)]; omega
            have ew5 : IntKind.i64.wrap mid = mid := IntWalk.i64_in _ (by omega)
            have hmt : mids[i]? = some mid := by rw [HMI.out.1, List.getElem?_map, hp, hmid]; rfl
            have HMT := Lib.hid hmt
            have HMN : Hid ((Value.slice A3 i c3).ownBlock ≠ some lg) := Lib.hid (fun e => by have h1 := own_ge ho3 _ e; have := HLG.out; omega)
            have HOW := HO3
            have HFEW := Lib.hid (show i < 1000 by omega)
            have HSZ := Lib.hid hn3.size
            have HNW := Lib.hid (own_lt ho3)
            clear hp hpb hmid hmt ho3 hn3 hlt
            go_upto_region 34 with fail
            refine wp_words (by kernel_rfl) (region_tale 19 (by kernel_rfl) (by kernel_rfl) 18 (fun W => wr.grownBy W (Value.slice A3 i c3).ownBlock) (fun W => W.ownsRow (wl.heap.size) 3 1 (.slice A3 i c3) i ((mids.take i).flatMap intL) ∧ newer wr W) (relAt 18 (fun W W' => W.grownBy W' (Value.slice A3 i c3).ownBlock)) (pickD [vIs (.slice A3 i c3), vIs (.slice (some ⟨lg, 0, none⟩) y.s.spots.length lc), vIs (vi i), vIs (.pointer (some ⟨lg, i * 4, none⟩)), vIs (.pointer (some ⟨lg, i * 4, none⟩)), vIs (.pointer (some ⟨lg, i * 4, none⟩)), vIs (vi p.x.lo), vIs (vi (p.x.lo + 30)), vIs (.slice (some ⟨lg, 0, none⟩) y.s.spots.length lc), vIs (vi i), vIs (.pointer (some ⟨lg, i * 4, none⟩)), vIs (.pointer (some ⟨lg, i * 4, none⟩)), vIs (.pointer (some ⟨lg, i * 4 + 1, none⟩)), vIs (vi p.x.hi), vIs (vi (p.x.lo + 30 + p.x.hi)), vIs (vi (p.x.lo + 30 + p.x.hi + 30)), vIs (vi mid), vOne wr.heap.size 3 #[vi mid], vOwnV wl.heap.size 3 1 (i + 1) ((mids.take i).flatMap intL ++ [mid].flatMap intL)]) (allBut_ok (fun _ _ h => grown_of_newer h _) _ ⟨vIs_st, vIs_st, vIs_st, vIs_st, vIs_st, vIs_st, vIs_st, vIs_st, vIs_st, vIs_st, vIs_st, vIs_st, vIs_st, vIs_st, vIs_st, vIs_st, vIs_st, vOne_grown HNW.out, vOwnV_st, trivial⟩) (by decide) (grown_drew (grown_refl _ _)) ⟨HO3.out.1, (Below.refl _ _).drew⟩ ?_ ?_)
            ·refine ⟨?_, ?_, ?_, ?_, ?_, ?_, ?_, ?_, ?_, ?_, ?_, ?_, ?_, ?_, ?_, ?_, ?_, ?_, ?_, trivial⟩
             ·intro a W hG hG1 hO hp; have h24 := hO.slot 24 (by kernel_rfl); refine wp_yields (v := .slice A3 i c3) ?_ ⟨_, rfl, rfl, newer_refl _, hG, fun _ h => h⟩; simp [slotOf] at h24; simp [execOp, go_sem, h24]
             ·intro a W hG hG1 hO hp; have h22 := hO.slot 22 (by kernel_rfl); refine wp_yields (v := .slice (some ⟨lg, 0, none⟩) y.s.spots.length lc) ?_ ⟨_, rfl, rfl, newer_refl _, hG, fun _ h => h⟩; simp [slotOf] at h22; simp [execOp, go_sem, h22]
             ·intro a W hG hG1 hO hp; have h25 := hO.slot 25 (by kernel_rfl); refine wp_yields (v := vi i) ?_ ⟨_, rfl, rfl, newer_refl _, hG, fun _ h => h⟩; simp [slotOf] at h25; simp [execOp, go_sem, h25]
             ·intro a W hG hG1 hO hp; have h183 : slotOf a 183 = .slice (some ⟨lg, 0, none⟩) y.s.spots.length lc := hp.1; have h184 : slotOf a 184 = vi i := hp.2.1; refine wp_yields (v := .pointer (some ⟨lg, i * 4, none⟩)) ?_ ⟨_, rfl, rfl, newer_refl _, hG, fun _ h => h⟩; simp [slotOf] at h183 h184; simp [execOp, go_sem, h183, h184, hil]
             ·intro a W hG hG1 hO hp; have h185 : slotOf a 185 = .pointer (some ⟨lg, i * 4, none⟩) := hp.1; refine wp_yields (v := .pointer (some ⟨lg, i * 4, none⟩)) ?_ ⟨_, rfl, rfl, newer_refl _, hG, fun _ h => h⟩; simp [slotOf] at h185; simp [execOp, go_sem, h185]
             ·intro a W hG hG1 hO hp; have h186 : slotOf a 186 = .pointer (some ⟨lg, i * 4, none⟩) := hp.1; refine wp_yields (v := .pointer (some ⟨lg, i * 4, none⟩)) ?_ ⟨_, rfl, rfl, newer_refl _, hG, fun _ h => h⟩; simp [slotOf] at h186; simp [execOp, go_sem, h186]
             ·intro a W hG hG1 hO hp; have h187 : slotOf a 187 = .pointer (some ⟨lg, i * 4, none⟩) := hp.1; have c0 := hG.cell p0 HMN.out.symm; refine wp_yields (v := vi p.x.lo) ?_ ⟨_, rfl, rfl, newer_refl _, hG, fun _ h => h⟩; simp [slotOf] at h187; simp [execOp, go_sem, h187, c0]
             ·intro a W hG hG1 hO hp; have h188 : slotOf a 188 = vi p.x.lo := hp.1; refine wp_yields (v := vi (p.x.lo + 30)) ?_ ⟨_, rfl, rfl, newer_refl _, hG, fun _ h => h⟩; simp [slotOf] at h188; simp [execOp, go_sem, h188, ew1]
             ·intro a W hG hG1 hO hp; have h22 := hO.slot 22 (by kernel_rfl); refine wp_yields (v := .slice (some ⟨lg, 0, none⟩) y.s.spots.length lc) ?_ ⟨_, rfl, rfl, newer_refl _, hG, fun _ h => h⟩; simp [slotOf] at h22; simp [execOp, go_sem, h22]
             ·intro a W hG hG1 hO hp; have h25 := hO.slot 25 (by kernel_rfl); refine wp_yields (v := vi i) ?_ ⟨_, rfl, rfl, newer_refl _, hG, fun _ h => h⟩; simp [slotOf] at h25; simp [execOp, go_sem, h25]
             ·intro a W hG hG1 hO hp; have h190 : slotOf a 190 = .slice (some ⟨lg, 0, none⟩) y.s.spots.length lc := hp.1; have h191 : slotOf a 191 = vi i := hp.2.1; refine wp_yields (v := .pointer (some ⟨lg, i * 4, none⟩)) ?_ ⟨_, rfl, rfl, newer_refl _, hG, fun _ h => h⟩; simp [slotOf] at h190 h191; simp [execOp, go_sem, h190, h191, hil]
             ·intro a W hG hG1 hO hp; have h192 : slotOf a 192 = .pointer (some ⟨lg, i * 4, none⟩) := hp.1; refine wp_yields (v := .pointer (some ⟨lg, i * 4, none⟩)) ?_ ⟨_, rfl, rfl, newer_refl _, hG, fun _ h => h⟩; simp [slotOf] at h192; simp [execOp, go_sem, h192]
             ·intro a W hG hG1 hO hp; have h193 : slotOf a 193 = .pointer (some ⟨lg, i * 4, none⟩) := hp.1; refine wp_yields (v := .pointer (some ⟨lg, i * 4 + 1, none⟩)) ?_ ⟨_, rfl, rfl, newer_refl _, hG, fun _ h => h⟩; simp [slotOf] at h193; simp [execOp, go_sem, h193]
             ·intro a W hG hG1 hO hp; have h194 : slotOf a 194 = .pointer (some ⟨lg, i * 4 + 1, none⟩) := hp.1; have c0 := hG.cell p1 HMN.out.symm; refine wp_yields (v := vi p.x.hi) ?_ ⟨_, rfl, rfl, newer_refl _, hG, fun _ h => h⟩; simp [slotOf] at h194; simp [execOp, go_sem, h194, c0]
             ·intro a W hG hG1 hO hp; have h189 : slotOf a 189 = vi (p.x.lo + 30) := hp.1; have h195 : slotOf a 195 = vi p.x.hi := hp.2.1; refine wp_yields (v := vi (p.x.lo + 30 + p.x.hi)) ?_ ⟨_, rfl, rfl, newer_refl _, hG, fun _ h => h⟩; simp [slotOf] at h189 h195; simp [execOp, go_sem, h189, h195, ew2]
             ·intro a W hG hG1 hO hp; have h196 : slotOf a 196 = vi (p.x.lo + 30 + p.x.hi) := hp.1; refine wp_yields (v := vi (p.x.lo + 30 + p.x.hi + 30)) ?_ ⟨_, rfl, rfl, newer_refl _, hG, fun _ h => h⟩; simp [slotOf] at h196; simp [execOp, go_sem, h196, ew3]
             ·intro a W hG hG1 hO hp; have h197 : slotOf a 197 = vi (p.x.lo + 30 + p.x.hi + 30) := hp.1; refine wp_yields (v := vi mid) ?_ ⟨_, rfl, rfl, newer_refl _, hG, fun _ h => h⟩; simp [slotOf] at h197; simp [execOp, go_sem, h197, ew4, ew5]
             ·intro a W hG hG1 hO hp; have h198 : slotOf a 198 = vi mid := hp.1; refine wp_makes (v := .slice (some ⟨W.heap.size, 0, none⟩) 1 1) (W' := W.alloc (.cells #[vi mid] 3)) ?_ ⟨_, rfl, ⟨_, rfl, hG.size, Whole.made _ _ _⟩, newer_allocH _ _, grown_alloc hG _, fun _ h => ⟨own_below h.1 (newer_allocH _ _), newer_trans h.2 (newer_allocH _ _)⟩⟩; simp [slotOf] at h198; simp [execOp, go_sem, h198]
             ·intro a W hG hG1 hO hp; have h182 : slotOf a 182 = .slice A3 i c3 := hp.1; have h199 := hp.2.1; obtain ⟨nb, h199, hnb, hW⟩ := h199; obtain ⟨ho, hnw⟩ := hG1 rfl; obtain ⟨hi0, hz0, hz1, hz2⟩ := HI.out; refine wp_append_all (enc := intL) (size := 1) (wl.heap.size) (.tmp 182) (.tmp 199) 24 3 i0 (.int .i64 0) 8 Try.underlying24 hi0 hz0 hz1 hz2 rfl (by omega) (fun _ => rfl) intL_one1 rfl A3 i c3 ((mids.take i).flatMap intL) ((eval_slot a 182).trans h182) ho [mid] (some ⟨nb, 0, none⟩) 1 ((eval_slot a 199).trans h199) (row_of_whole (enc := intL) (s := 1) (fun _ => rfl) hW rfl) (by have := HFEW.out; unfold maxLen; simp only [List.length_singleton]; omega) (by have := HFEW.out; simp only [List.length_singleton]; omega) (Nat.le_trans HSZ.out hG.size) ?_; intro B c' w1 hown hgr hat; exact ⟨_, rfl, ⟨B, c', rfl, hown⟩, hgr, grown_trans' hG hgr, fun e => absurd rfl e⟩
            ·intro wg hG
             rintro _ rfl _ rfl _ rfl _ rfl _ rfl _ rfl _ rfl _ rfl _ rfl _ rfl _ rfl _ rfl _ rfl _ rfl _ rfl _ rfl _ rfl _ hv199 _ ⟨B2, c2', rfl, hown⟩
             change wpList _ _ _ _ _ _
             simp only [Act.put, List.setIfInBounds_toArray, List.set_cons_zero, List.set_cons_succ, List.drop_succ_cons, List.drop_zero]
             have HGR := Lib.hid hG
             have HOWN := Lib.hid hown
             clear hG hown p0 p1 p2 p3 ew1 ew2 ew3 ew4 ew5 hv199
             go_wp2_with fail
             refine ⟨⟨i + 1, B2, c2', by omega, rfl, rfl, by have h := HOWN.out; rw [List.take_add_one, HMT.out, List.flatMap_append]; exact h, below_row HO3.out.2 HO3.out.1 HGR.out (Nat.le_refl _)⟩, ?_⟩
             simp [intOf]
             omega
           case neg =>
            have hie : i = y.s.spots.length := by omega
            subst hie
            have hge : ¬ (y.s.spots.length : Int) < y.s.spots.length := by omega
            clear ho3 hn3 hlt
            go_upto_region 35 with fail
            obtain ⟨wq, rfl⟩ : ∃ v, v = wr := ⟨_, rfl⟩
            have hnwq := newer_trans (newer_trans (newer_trans H5.out HJ.out.nw) HLO.out.2) HO3.out.2
            have hhq := HH.out.next hnwq
            have HHQ := Lib.hid hhq
            have hlow := HH.out.low
            have hsz : wo.heap.size ≤ wl.heap.size := (newer_trans (newer_trans H5.out HJ.out.nw) HLO.out.2).size
            have HL1 := Lib.hid (hhq.low.1)
            have HL2 := Lib.hid (hhq.low.2)
            have HNE : Hid ((∀ q, own1 A1 k c1 = some q → own1 A2 k c2 ≠ some q) ∧ ∀ q, own1 A2 k c2 = some q → own1 A1 k c1 ≠ some q) := Lib.hid ⟨own_own_ne hhq.o1 hhq.sp (by decide), own_own_ne hhq.sp hhq.o1 (by decide)⟩
            obtain ⟨mf, hmf⟩ : ∃ m, f[0]? = some m := ⟨_, List.getElem?_eq_getElem (by rw [HF.out.1]; exact HSD.out.spots.1)⟩
            have hff : fnL f 0 = mf := fnL_at hmf
            have hfb := FieldIn.bd HSD.out HF.out.2 (i := 0) HSD.out.spots.1
            rw [hff] at hfb
            obtain ⟨fb', fo', ef, hfl, m0, _⟩ := row2 ((row_of_own (enc := mvL) (size := 2) (by decide) (fun _ => rfl) HFO.out).below (newer_trans (newer_trans HJ.out.nw HLO.out.2) HO3.out.2)) hmf
            injection ef with ef
            injection ef with ef1 ef2
            subst ef1
            subst ef2
            have HFM : Hid (∀ W, Grown2 wq W (own1 A1 k c1) (own1 A2 k c2) → W.cell? ⟨fb, 0, none⟩ = some (vi mf.1)) := Lib.hid (fun W hW => by
             have h1 : W.heap[fb]? = wq.heap[fb]? := hW.block fb (Nat.lt_of_lt_of_le hfl (newer_trans (newer_trans HJ.out.nw HLO.out.2) HO3.out.2).size) (fun e => by have := hlow.1 fb e.symm; have := HFB.out; omega) (fun e => by have := hlow.2 fb e.symm; have := HFB.out; omega)
             rw [cell_of_same h1]
             exact m0)
            obtain ⟨v, hv⟩ : ∃ v, v = mf.1 + 30 := ⟨_, rfl⟩
            have ewv : IntKind.i64.wrap (mf.1 + 30) = v := by rw [hv]; exact IntWalk.i64_in _ (by omega)
            have hf0 : 0 < f.length := by rw [HF.out.1]; exact HSD.out.spots.1
            have HHO : Hid (HourOk y.s mids v) := Lib.hid (by have h := HLL.out.2.2; rw [hff] at h; rw [HMI.out.1, hv]; exact h)
            have HLW : Hid ((∀ q, own1 A1 k c1 = some q → q < wl.heap.size) ∧ ∀ q, own1 A2 k c2 = some q → q < wl.heap.size) := Lib.hid ⟨fun q hq => Nat.lt_of_lt_of_le (hlow.1 q hq) hsz, fun q hq => Nat.lt_of_lt_of_le (hlow.2 q hq) hsz⟩
            have HB0 := Lib.hid (show w4.heap.size ≤ wq.heap.size from hhq.nw.size)
            have HBL := Lib.hid (show w4.heap.size ≤ wl.heap.size from Nat.le_trans HH.out.nw.size hsz)
            have HK3 := Lib.hid hk3
            have hor : wq.ownsRow wl.heap.size 3 1 (.slice A3 mids.length c3) mids.length (mids.map vi) := by
             have h := HO3.out.1
             rw [← HMI.out.2, List.take_length, map_vi] at h
             exact h
            have HOR := Lib.hid hor
            clear hnwq hhq hlow hsz hmf hff hfb hfl m0 hv hor
            go_upto_region 35 with fail
            refine wp_words (by kernel_rfl) (region_steps 12 3 11 (by kernel_rfl) (by kernel_rfl) (by kernel_rfl) (by decide) (by decide) (by decide) (ApH w4.heap.size (own1 A1 k c1) (own1 A2 k c2) (.slice A1 k c1) (.slice A2 k c2) k (us.flatMap lnL) (vs.map vi) wq) (fun W W' => W.grownBy W' (own1 A1 k c1)) (fun W W' => W.grownBy W' (own1 A2 k c2)) (pickD [vIs (.slice A1 k c1), vIs (.slice A3 y.s.spots.length c3), vOne wq.heap.size 24 #[.slice A3 y.s.spots.length c3], vApp 24 w4.heap.size wq.heap.size k (own1 A1 k c1) (us.flatMap lnL) (.slice A3 y.s.spots.length c3), vIs (.slice A2 k c2), vIs (.slice (some ⟨fb, 0, none⟩) f.length fc), vIs (.pointer (some ⟨fb, 0, none⟩)), vIs (.pointer (some ⟨fb, 0, none⟩)), vIs (vi mf.1), vIs (vi v), vOne wq.heap.size 3 #[vi v], vApp 3 w4.heap.size wq.heap.size k (own1 A2 k c2) (vs.map vi) (vi v)]) ?_ (fun sg W W' h hb => h.next hb) ?_ ?_ ⟨(Grown2.refl _ _ _).next (newer_drew_ _), fun _ => own_below HHQ.out.o1 (newer_drew_ _), fun _ => own_below HHQ.out.sp (newer_drew_ _)⟩ ⟨?_, ?_, ?_, ?_, ?_, ?_, ?_, ?_, ?_, ?_, ?_, ?_, trivial⟩ ?_)
            ·intro i v W W' hD hR
             match i, hD with
             | 0, h => exact h
             | 1, h => exact h
             | 2, h => exact vOne_st _ _ _ h hR
             | 3, h => exact vApp_st _ _ _ h hR
             | 4, h => exact h
             | 5, h => exact h
             | 6, h => exact h
             | 7, h => exact h
             | 8, h => exact h
             | 9, h => exact h
             | 10, h => exact vOne_st _ _ _ h hR
             | 11, h => exact vApp_st _ _ _ h hR
             | (_ + 12), _ => trivial
            ·intro i v W W' hi hD hR
             match i, hD with
             | 0, h => exact h
             | 1, h => exact h
             | 2, h => exact vOne_off HL1.out h hR
             | 3, h => exact absurd rfl hi
             | 4, h => exact h
             | 5, h => exact h
             | 6, h => exact h
             | 7, h => exact h
             | 8, h => exact h
             | 9, h => exact h
             | 10, h => exact vOne_off HL1.out h hR
             | 11, h => exact vApp_off HL1.out HNE.out.2 h hR
             | (_ + 12), _ => trivial
            ·intro i v W W' hi hD hR
             match i, hD with
             | 0, h => exact h
             | 1, h => exact h
             | 2, h => exact vOne_off HL2.out h hR
             | 3, h => exact vApp_off HL2.out HNE.out.1 h hR
             | 4, h => exact h
             | 5, h => exact h
             | 6, h => exact h
             | 7, h => exact h
             | 8, h => exact h
             | 9, h => exact h
             | 10, h => exact vOne_off HL2.out h hR
             | 11, h => exact absurd rfl hi
             | (_ + 12), _ => trivial
            ·intro a W hG hO hp; have h13 := hO.slot 13 (by kernel_rfl); refine wp_yields (v := .slice A1 k c1) ?_ ⟨_, rfl, rfl, Below.refl _ _⟩; simp [slotOf] at h13; simp [execOp, go_sem, h13]
            ·intro s9 a W hG hO hp
             have h24 := hO.slot 24 (by kernel_rfl)
             refine wp_yields (v := .slice A3 y.s.spots.length c3) ?_ ⟨_, rfl, rfl, Below.refl _ _⟩
             simp [slotOf] at h24
             simp [execOp, go_sem, h24]
            ·intro a W hG hO hp; have h202 : slotOf a 202 = .slice A3 y.s.spots.length c3 := hp.1; refine wp_makes (v := .slice (some ⟨W.heap.size, 0, none⟩) 1 1) (W' := W.alloc (.cells #[.slice A3 y.s.spots.length c3] 24)) ?_ ⟨_, rfl, ⟨_, rfl, hG.gr.size, Whole.made _ _ _⟩, newer_allocH _ _⟩; simp [slotOf] at h202; simp [execOp, go_sem, h202]
            ·intro a W hG hO hp
             have h201 : slotOf a 201 = .slice A1 k c1 := hp.1
             obtain ⟨nb, h203, hnb, hW⟩ := hp.2.1
             obtain ⟨iq, hi, hz0, hz1, hz2⟩ := info_parts info_rowN
             refine wp_append_one (.tmp 201) (.tmp 203) 33 rfl w4.heap.size 24 iq (.slice none 0 0) 24 Try.underlying33 hi hz0 hz1 hz2 rfl A1 k c1 (us.flatMap lnL) ((eval_slot a 201).trans h201) (hG.r1 rfl) ⟨nb, 0, none⟩ 1 (.slice A3 y.s.spots.length c3) ((eval_slot a 203).trans h203) (hW.at 0 rfl) rfl (by have := HK3.out; unfold maxLen; omega) (by have := HK3.out; omega) (Nat.le_trans HB0.out hG.gr.size) ?_
             intro g c' W' hown hon0
             have hon : Onto1 A1 c1 g c' W W' := hon0
             have hgr : W.grownBy W' (own1 A1 k c1) := hon.grown
             refine ⟨_, rfl, ⟨g, c', rfl, hown, ?_⟩, hgr, hG.gr.one hgr, fun e => absurd e (by decide), fun _ => own_off (hG.r2 (by decide)) hgr fun q hq e => HNE.out.1 q e hq⟩
             rcases hon with ⟨h1, _, _⟩ | ⟨h1, _⟩
             ·exact .inl (by rw [h1]; rfl)
             ·exact .inr (Nat.le_trans hG.gr.size h1)
            ·intro s9 a W hs hG hO hp
             have h14 := hO.slot 14 (by kernel_rfl)
             refine wp_yields (v := .slice A2 k c2) ?_ ⟨_, rfl, rfl, Below.refl _ _⟩
             simp [slotOf] at h14
             simp [execOp, go_sem, h14]
            ·intro s9 a W hG hO hp
             have h16 := hO.slot 16 (by kernel_rfl)
             refine wp_yields (v := .slice (some ⟨fb, 0, none⟩) f.length fc) ?_ ⟨_, rfl, rfl, Below.refl _ _⟩
             simp [slotOf] at h16
             simp [execOp, go_sem, h16]
            ·intro s9 a W hG hO hp
             have h206 : slotOf a 206 = (.slice (some ⟨fb, 0, none⟩) f.length fc) := hp.1
             refine wp_yields (v := .pointer (some ⟨fb, 0, none⟩)) ?_ ⟨_, rfl, rfl, Below.refl _ _⟩
             simp [slotOf] at h206
             simp [execOp, go_sem, h206, hf0]
            ·intro s9 a W hG hO hp
             have h207 : slotOf a 207 = (.pointer (some ⟨fb, 0, none⟩)) := hp.1
             refine wp_yields (v := .pointer (some ⟨fb, 0, none⟩)) ?_ ⟨_, rfl, rfl, Below.refl _ _⟩
             simp [slotOf] at h207
             simp [execOp, go_sem, h207]
            ·intro s9 a W hG hO hp
             have h208 : slotOf a 208 = (.pointer (some ⟨fb, 0, none⟩)) := hp.1
             have c0 := HFM.out W hG.gr
             refine wp_yields (v := vi mf.1) ?_ ⟨_, rfl, rfl, Below.refl _ _⟩
             simp [slotOf] at h208
             simp [execOp, go_sem, h208, c0]
            ·intro s9 a W hG hO hp
             have h209 : slotOf a 209 = vi mf.1 := hp.1
             refine wp_yields (v := vi v) ?_ ⟨_, rfl, rfl, Below.refl _ _⟩
             simp [slotOf] at h209
             simp [execOp, go_sem, h209, ewv]
            ·intro s9 a W hs hG hO hp
             have h210 : slotOf a 210 = vi v := hp.1
             refine wp_makes (v := .slice (some ⟨W.heap.size, 0, none⟩) 1 1) (W' := W.alloc (.cells #[vi v] 3)) ?_ ⟨_, rfl, ⟨_, rfl, hG.gr.size, Whole.made _ _ _⟩, newer_allocH _ _⟩
             simp [slotOf] at h210
             simp [execOp, go_sem, h210]
            ·intro a W hG hO hp
             have h205 : slotOf a 205 = .slice A2 k c2 := hp.1
             obtain ⟨nb, h211, hnb, hW⟩ := hp.2.1
             obtain ⟨iq, hi, hz0, hz1, hz2⟩ := info_parts info_int
             refine wp_append_one (.tmp 205) (.tmp 211) 24 rfl w4.heap.size 3 iq (.int .i64 0) 8 Try.underlying24 hi hz0 hz1 hz2 rfl A2 k c2 (vs.map vi) ((eval_slot a 205).trans h205) (hG.r2 (Nat.le_refl _)) ⟨nb, 0, none⟩ 1 (vi v) ((eval_slot a 211).trans h211) (hW.at 0 rfl) rfl (by have := HK3.out; unfold maxLen; omega) (by have := HK3.out; omega) (Nat.le_trans HB0.out hG.gr.size) ?_
             intro g c' W' hown hon0
             have hon : Onto1 A2 c2 g c' W W' := hon0
             have hgr : W.grownBy W' (own1 A2 k c2) := hon.grown
             refine ⟨_, rfl, ⟨g, c', rfl, hown, ?_⟩, hgr, hG.gr.two hgr, fun e => absurd e (by decide), fun e => absurd e (by decide)⟩
             rcases hon with ⟨h1, _, _⟩ | ⟨h1, _⟩
             ·exact .inl (by rw [h1]; rfl)
             ·exact .inr (Nat.le_trans hG.gr.size h1)
            ·intro W hG
             rintro _ rfl _ rfl _ ⟨nb1, rfl, -⟩ _ ⟨g1, e1, rfl, hr1, hl1⟩ _ rfl _ rfl _ rfl _ rfl _ rfl _ rfl _ ⟨nb2, rfl, -⟩ _ ⟨g2, e2, rfl, hr2, hl2⟩
             change wpList _ _ _ _ _ _
             simp only [Act.put, List.setIfInBounds_toArray, List.set_cons_zero, List.set_cons_succ, List.drop_succ_cons, List.drop_zero]
             have HA := Lib.hid (HHQ.out.app HOR.out HBL.out HLW.out.1 HLW.out.2 HHO.out hG.gr (by rw [HMI.out.2]; exact hr1) hr2 hl1 hl2)
             clear hG hr1 hr2 hl1 hl2
             go_wp2_with fail
             refine ⟨⟨k + 1, _, _, _, _, _, _, _, by omega, rfl, rfl, rfl, HA.out⟩, ?_⟩
             simp [intOf]
             omega
      case neg =>
       obtain rfl : k = hm := by omega
       have hge : ¬ (k : Int) < k := by omega
       clear hlt
       go_upto_region 36 with fail
       have hrk := hj.hr
       have hrn := hj.rn
       have hk60 : R.length ≤ 60 := by omega
       have hpo := postW_ok HSD.out fall out
       have hrows := hours_rows hrk hk60 fall out
       have htrue := hours_true hrk fall out
       rw [← HPX.out.2.2] at hpo hrows htrue
       have HST := Lib.hid (And.intro hpo (And.intro hrk hrn))
       have HLV : Hid (∀ W B d, newer wo W → IRows R B W → Calls Try.prog 27 #[.agg #[.slice A n c, vi 60, vi 60, vi pf, vi po, vi 1], .slice B R.length d] W fun e w' => newer W w' ∧ ∃ Z B' d', e = .returned (.tuple #[.slice B' Z.length d', vi 0]) ∧ StOk X.p R vs B' Z w') := Lib.hid (fun W B d hW hir => by
        have h := levels_yes X R vs B d W (HPX.out.2.1.next (newer_trans HH.out.nw hW)) hpo hir hrows htrue
        rw [HPX.out.1] at h
        exact h.mono fun e w' ⟨h1, Z, B', d', h2, h3, h4, h5⟩ => ⟨h1, Z, B', d', h2, h3, h4, h5⟩)
       have HCP : Hid (∀ W, newer wo W → Calls Try.prog 28 #[.slice A1 k c1] W fun e w' => ∃ B d, e = .returned (.slice B R.length d) ∧ IRows R B w' ∧ newer W w') := Lib.hid (fun W hW => by
        have h := copied_any R A1 c1 W (HH.out.irows.next hW) (by omega) (fun l hl => by rw [hrows.l l hl]; have := hpo.n1; omega)
        rw [HH.out.rn] at h
        rw [HH.out.rn]
        exact h)
       have HPT : Hid (∀ W B d B2 d2, newer wo W → IRows R B W → Row intL 1 W W.heap.size B2 vs → Calls Try.prog 29 #[.agg #[.slice A n c, vi 60, vi 60, vi pf, vi po, vi 1], .slice B R.length d, vi (-1), .slice B2 vs.length d2] W fun e w' => e = .returned (.bool true) ∧ newer W w') := Lib.hid (fun W B d B2 d2 hW hir hvr => by
        have h := proveT_any X R vs B B2 d d2 W (HPX.out.2.1.next (newer_trans HH.out.nw hW)) hpo hir hrows htrue hvr
        rw [HPX.out.1] at h
        exact h)
       have hvl : vs.length = k := by rw [hrk.1, hrn]
       have hk1 : 1 ≤ k := hmb.1
       obtain ⟨vb, rfl, hvb⟩ := own_some hj.sp hk1
       have hvrow : Row intL 1 wo wo.heap.size (some ⟨vb, 0, none⟩) vs := row_of_own (enc := intL) (size := 1) (by decide) (fun _ => rfl) (by rw [map_vi]; exact hj.sp)
       have HVR := Lib.hid hvrow
       have HVL := Lib.hid hvl
       have hpb0 := HPB.out.below HH.out.nw HPB.out.lt
       have p0 := hpb0.at 0 (v := .slice A n c) rfl
       have p1 := hpb0.at 1 (v := vi 60) rfl
       have p2 := hpb0.at 2 (v := vi 60) rfl
       have p3 := hpb0.at 3 (v := vi pf) rfl
       have p4 := hpb0.at 4 (v := vi po) rfl
       have p5 := hpb0.at 5 (v := vi 1) rfl
       clear hrk hrn hk60 hpo hrows htrue hvl hvb hvrow hpb0 hj
       refine wp_words (by kernel_rfl) (region_told 8 (by kernel_rfl) (by kernel_rfl) (fun W => Below wo.heap.size wo W) newer (pickD [vIs (.agg #[.slice A n c, vi 60, vi 60, vi pf, vi po, vi 1]), vIs (.slice A1 k c1), vCop R, vLev X.p R vs, vLev X.p R vs, vLv X.p R vs, vIs (vi 0), vLv X.p R vs]) (fun h k => newer_trans h k) (pickD_stable _ ⟨vIs_st, vIs_st, vCop_st, vLev_st, vLev_st, vLv_st, vIs_st, vLv_st, trivial⟩) (Below.refl _ wo).drew (Below.refl _ _) ?_ ?_)
       ·refine ⟨?_, ?_, ?_, ?_, ?_, ?_, ?_, ?_, trivial⟩
        ·intro a W hG hR hO hp; have h11 := hO.slot 11 (by kernel_rfl); have c0 := keep_cell p0 hG; have c1 := keep_cell p1 hG; have c2 := keep_cell p2 hG; have c3 := keep_cell p3 hG; have c4 := keep_cell p4 hG; have c5 := keep_cell p5 hG; refine kY (v := .agg #[.slice A n c, vi 60, vi 60, vi pf, vi po, vi 1]) hG rfl ?_; simp [slotOf] at h11; simp [execOp, go_sem, h11, c0, c1, c2, c3, c4, c5]
        ·exact fun a W hG _ hO _ => kM 13 rfl (hO.slot 13 (by kernel_rfl)) rfl hG
        ·intro a W hG hR hO hp
         have h215 : slotOf a 215 = .slice A1 k c1 := hp.1
         refine wp_enters (f := 28) (args := #[.slice A1 k c1]) ?_ ((HCP.out W (newer_trans (newer_refl _) hG)).mono ?_)
         ·simp [slotOf] at h215
          simp [go_sem, h215]
         ·rintro e w' ⟨B', d', rfl, ho, hb⟩
          exact ⟨_, rfl, _, rfl, ⟨B', d', rfl, ho⟩, hb, below_next hG hb⟩
        ·intro a W hG hR hO hp
         have h214 : slotOf a 214 = .agg #[.slice A n c, vi 60, vi 60, vi pf, vi po, vi 1] := hp.1
         have h216 := hp.2.1
         obtain ⟨B', d', h216, hir⟩ := h216
         refine wp_enters (f := 27) (args := #[.agg #[.slice A n c, vi 60, vi 60, vi pf, vi po, vi 1], .slice B' R.length d']) ?_ ((HLV.out W B' d' hG hir).mono ?_)
         ·simp [slotOf] at h214 h216
          simp [go_sem, h214, h216]
         ·rintro e w' ⟨hb, Z, B2, d2, rfl, h5⟩
          exact ⟨_, rfl, _, rfl, ⟨Z, B2, d2, rfl, h5⟩, hb, below_next hG hb⟩
        ·intro a W hG hR hO hp; have h217 := hp.1; obtain ⟨Z, B2, d2, h217, h5⟩ := h217; refine wp_yields (v := .tuple #[.slice B2 Z.length d2, vi 0]) ?_ ⟨_, rfl, ⟨Z, B2, d2, rfl, h5⟩, Below.refl _ _, hG⟩; simp [slotOf] at h217; simp [execOp, go_sem, h217]
        ·intro a W hG hR hO hp; have h213 := hp.1; obtain ⟨Z, B2, d2, h213, h5⟩ := h213; refine wp_yields (v := .slice B2 Z.length d2) ?_ ⟨_, rfl, ⟨Z, B2, d2, rfl, h5⟩, Below.refl _ _, hG⟩; simp [slotOf] at h213; simp [execOp, go_sem, h213]
        ·intro a W hG hR hO hp; have h213 := hp.1; obtain ⟨Z, B2, d2, h213, h5⟩ := h213; refine wp_yields (v := vi 0) ?_ ⟨_, rfl, rfl, Below.refl _ _, hG⟩; simp [slotOf] at h213; simp [execOp, go_sem, h213]
        ·intro a W hG hR hO hp; have h218 := hp.1; obtain ⟨Z, B2, d2, h218, h5⟩ := h218; refine wp_yields (v := .slice B2 Z.length d2) ?_ ⟨_, rfl, ⟨Z, B2, d2, rfl, h5⟩, Below.refl _ _, hG⟩; simp [slotOf] at h218; simp [execOp, go_sem, h218]
       ·intro w8 hG hR
        rintro _ rfl _ rfl _ - _ - _ - _ - _ rfl _ ⟨Z, SB, sd, rfl, hst⟩
        change wpList _ _ _ _ _ _
        simp only [Act.put, List.setIfInBounds_toArray, List.set_cons_zero, List.set_cons_succ, List.drop_succ_cons, List.drop_zero]
        have HN8 := Lib.hid hG
        clear hG hR p0 p1 p2 p3 p4 p5
        have hzl : Z.length = k := by rw [hst.2.1]; exact HST.out.2.2
        have HZL := Lib.hid hzl
        have HZS := Lib.hid hst
        rw [hzl]
        obtain ⟨zb, zo, rfl, _⟩ := hst.1 (List.ne_nil_of_length_pos (by omega))
        have hpb1 := HPB.out.below (newer_trans HH.out.nw HN8.out) HPB.out.lt
        have p0 := hpb1.at 0 (v := .slice A n c) rfl
        have p1 := hpb1.at 1 (v := vi 60) rfl
        have p2 := hpb1.at 2 (v := vi 60) rfl
        have p3 := hpb1.at 3 (v := vi pf) rfl
        have p4 := hpb1.at 4 (v := vi po) rfl
        have p5 := hpb1.at 5 (v := vi 1) rfl
        clear hst hpb1 hzl
        go_upto_region 37 with fail
        refine wp_words (by kernel_rfl) (region_told_u 17 (by kernel_rfl) (by kernel_rfl) [false, false, false, false, false, false, false, false, false, false, false, false, false, false, false, false, false] (fun W => Below w8.heap.size w8 W) newer [vIs (vi 0), vIs (.bool false), vIs (.bool false), vIs (.slice (some ⟨zb, zo, none⟩) k sd), vIs (.int .i64 k), vIs (.slice A1 k c1), vIs (.int .i64 k), vIs (.bool false), vIs (.bool false), vIs (.bool false), vIs (.agg #[.slice A n c, vi 60, vi 60, vi pf, vi po, vi 1]), vIs (.slice A1 k c1), vCop R, vIs (.slice (some ⟨vb, 0, none⟩) k c2), vSpd vs, vIs (.bool true), vIs (.bool false)] (by repeat' first | refine And.intro ?_ ?_ | exact trivial | exact rfl | (intro v W h; obtain rfl : v = _ := h; first | rfl | (simp; done) | (simp [undef]; done))) (by repeat' first | refine And.intro ?_ ?_ | exact trivial | exact (fun h => Bool.noConfusion (show false = true from h)) | exact (fun _ _ => rfl)) (fun h k => newer_trans h k) (pickD_stable _ ⟨vIs_st, vIs_st, vIs_st, vIs_st, vIs_st, vIs_st, vIs_st, vIs_st, vIs_st, vIs_st, vIs_st, vIs_st, vCop_st, vIs_st, vSpd_st, vIs_st, vIs_st, trivial⟩) (Below.refl _ w8).drew (Below.refl _ _) ?_ ?_)
        ·refine ⟨.inr ?_, .inr ?_, .inr ?_, .inr ?_, .inr ?_, .inr ?_, .inr ?_, .inr ?_, .inr ?_, .inr ?_, .inr ?_, .inr ?_, .inr ?_, .inr ?_, .inr ?_, .inr ?_, .inr ?_, trivial⟩
         ·exact fun a W hG _ hO _ => kM 27 rfl (hO.slot 27 (by kernel_rfl)) rfl hG
         ·intro a W hG hR hO hp; have h220 : slotOf a 220 = vi 0 := hp.1; refine kY (v := .bool false) hG rfl ?_; simp [slotOf] at h220; simp [execOp, go_sem, h220]
         ·exact fun a W hG _ _ hp => kM 221 rfl hp.1 rfl hG
         ·exact fun a W hG _ hO _ => kM 26 rfl (hO.slot 26 (by kernel_rfl)) rfl hG
         ·intro a W hG hR hO hp; have h223 : slotOf a 223 = .slice (some ⟨zb, zo, none⟩) k sd := hp.1; refine kY (v := .int .i64 k) hG rfl ?_; simp [slotOf] at h223; simp [go_sem, h223]
         ·exact fun a W hG _ hO _ => kM 13 rfl (hO.slot 13 (by kernel_rfl)) rfl hG
         ·intro a W hG hR hO hp; have h225 : slotOf a 225 = .slice A1 k c1 := hp.1; refine kY (v := .int .i64 k) hG rfl ?_; simp [slotOf] at h225; simp [go_sem, h225]
         ·intro a W hG hR hO hp; have h224 : slotOf a 224 = .int .i64 k := hp.1; have h226 : slotOf a 226 = .int .i64 k := hp.2.1; refine kY (v := .bool false) hG rfl ?_; simp [slotOf] at h224 h226; simp [execOp, go_sem, h224, h226]
         ·intro a W hG hR hO hp; have h222 : slotOf a 222 = .bool false := hp.1; have h227 : slotOf a 227 = .bool false := hp.2.1; refine kY (v := .bool false) hG rfl ?_; simp [slotOf] at h222 h227; simp [execOp, go_sem, h222, h227]
         ·exact fun a W hG _ _ hp => kM 228 rfl hp.1 rfl hG
         ·intro a W hG hR hO hp; have h11 := hO.slot 11 (by kernel_rfl); have c0 := keep_cell p0 hG; have c1 := keep_cell p1 hG; have c2 := keep_cell p2 hG; have c3 := keep_cell p3 hG; have c4 := keep_cell p4 hG; have c5 := keep_cell p5 hG; refine kY (v := .agg #[.slice A n c, vi 60, vi 60, vi pf, vi po, vi 1]) hG rfl ?_; simp [slotOf] at h11; simp [execOp, go_sem, h11, c0, c1, c2, c3, c4, c5]
         ·exact fun a W hG _ hO _ => kM 13 rfl (hO.slot 13 (by kernel_rfl)) rfl hG
         ·intro a W hG hR hO hp
          have h231 : slotOf a 231 = .slice A1 k c1 := hp.1
          refine wp_enters (f := 28) (args := #[.slice A1 k c1]) ?_ ((HCP.out W (newer_trans HN8.out hG)).mono ?_)
          ·simp [slotOf] at h231
           simp [go_sem, h231]
          ·rintro e w' ⟨B', d', rfl, ho, hb⟩
           exact ⟨_, rfl, _, rfl, ⟨B', d', rfl, ho⟩, hb, below_next hG hb⟩
         ·exact fun a W hG _ hO _ => kM 14 rfl (hO.slot 14 (by kernel_rfl)) rfl hG
         ·intro a W hG hR hO hp; have h233 : slotOf a 233 = .slice (some ⟨vb, 0, none⟩) k c2 := hp.1; have hvr := ((HVR.out.below (newer_trans HN8.out hG)).more (newer_trans HN8.out hG).size); obtain ⟨hi0, hz0, hz1, hz2⟩ := HI.out; have hvl := HVL.out; refine wp_append_all (enc := intL) (size := 1) W.heap.size (.const (.slice none 0 0)) (.tmp 233) 24 3 i0 (.int .i64 0) 8 Try.underlying24 hi0 hz0 hz1 hz2 rfl (by omega) (fun _ => rfl) intL_one1 rfl none 0 0 [] rfl ⟨rfl, .inl ⟨rfl, rfl⟩⟩ vs (some ⟨vb, 0, none⟩) c2 ((eval_slot a 233).trans (by rw [hvl]; exact h233)) hvr (by unfold maxLen; omega) (by omega) (Nat.le_refl _) ?_; intro B2 d2 w2 hown hgr hat; have hnn : newer W w2 := below_grown hgr (fun q hq => by simp [Value.ownBlock] at hq) (Nat.le_refl _); rw [Nat.zero_add, List.nil_append] at hown; rw [Nat.zero_add]; exact ⟨_, rfl, ⟨B2, d2, rfl, row_of_own (enc := intL) (size := 1) (by decide) (fun _ => rfl) hown⟩, hnn, below_next hG hnn⟩
         ·intro a W hG hR hO hp
          have h230 : slotOf a 230 = .agg #[.slice A n c, vi 60, vi 60, vi pf, vi po, vi 1] := hp.1
          have h232 := hp.2.1
          have h234 := hp.2.2.1
          obtain ⟨B', d', h232, hir⟩ := h232
          obtain ⟨B2, d2, h234, hvr⟩ := h234
          refine wp_enters (f := 29) (args := #[.agg #[.slice A n c, vi 60, vi 60, vi pf, vi po, vi 1], .slice B' R.length d', vi (-1), .slice B2 vs.length d2]) ?_ ((HPT.out W B' d' B2 d2 (newer_trans HN8.out hG) hir hvr).mono ?_)
          ·simp [slotOf] at h230 h232 h234
           simp [go_sem, h230, h232, h234]
          ·rintro e w' ⟨rfl, hb⟩
           exact ⟨_, rfl, _, rfl, rfl, hb, below_next hG hb⟩
         ·intro a W hG hR hO hp; have h235 : slotOf a 235 = .bool true := hp.1; refine kY (v := .bool false) hG rfl ?_; simp [slotOf] at h235; simp [execOp, go_sem, h235]
        ·intro w9 hG hR
         rintro _ rfl _ rfl _ rfl _ rfl _ rfl _ rfl _ rfl _ rfl _ rfl _ rfl _ rfl _ rfl _ - _ rfl _ - _ rfl _ rfl
         change wpList _ _ _ _ _ _
         simp only [Act.put, List.setIfInBounds_toArray, List.set_cons_zero, List.set_cons_succ, List.drop_succ_cons, List.drop_zero]
         have HN9 := Lib.hid (newer_trans HN8.out hG)
         have HN98 := Lib.hid hG
         clear hG hR p0 p1 p2 p3 p4 p5
         go_wp2_with fail
         go_loopw [28, 29] (fun s28 _ wr => ∃ i : Nat, i ≤ k ∧ s28 = vi i ∧ newer w9 wr) (fun s28 _ _ => k - (intOf s28).toNat)
         case atStart => exact ⟨0, Nat.zero_le _, rfl, newer_refl _⟩
         case round =>
          obtain ⟨i, hi, rfl, hnx⟩ := hrel
          obtain ⟨wi, rfl⟩ : ∃ v, v = wr := ⟨_, rfl⟩
          have HNX := Lib.hid hnx
          by_cases hlt : i < k
          case pos =>
           have hik : (i : Int) < k := by omega
           obtain ⟨v, hv⟩ : ∃ v, vs[i]? = some v := ⟨_, List.getElem?_eq_getElem (by rw [HVL.out]; exact hlt)⟩
           obtain ⟨s, hs⟩ : ∃ s, Z[i]? = some s := ⟨_, List.getElem?_eq_getElem (by rw [HZL.out]; exact hlt)⟩
           have hh := HZS.out.2.2 i s v hs hv
           have c1x : ¬ v < s.1 := by omega
           have c2x : ¬ s.2 < v := by omega
           obtain ⟨vb', vo', ev, _, v0⟩ := row1 (HVR.out.below (newer_trans HN9.out hnx)) hv
           injection ev with ev
           injection ev with ev1 ev2
           subst ev1
           subst ev2
           rw [Nat.zero_add] at v0
           obtain ⟨zb', zo', ez, _, z0, z1, _⟩ := rowSt (HZS.out.1.below (newer_trans HN98.out hnx)) hs
           injection ez with ez
           injection ez with ez1 ez2
           subst ez1
           subst ez2
           have HVV := Lib.hid (And.intro hv (show v ≤ 100000 ∧ -100000 ≤ v by omega))
           clear hv hs hh
           go_wp2_with fail
           go_quiet (fail)
           have hpb2 := HPB.out.below (newer_trans HH.out.nw (newer_trans HN9.out HNX.out)) HPB.out.lt
           clear hpb2
           obtain ⟨d0, hd0⟩ : ∃ q : Int, q = (i : Int) - po := ⟨_, rfl⟩
           have hd2 : -10 ≤ d0 ∧ d0 ≤ i := by omega
           obtain ⟨mx, hmx⟩ : ∃ q : Nat, (if 0 < d0 then d0 else 0) = q := ⟨d0.toNat, by split <;> omega⟩
           have hmxb : (i : Int) - po ≤ mx ∧ mx ≤ i := by
            rw [← Int.ofNat_le, ← hmx]
            split <;> omega
           have es1 : IntKind.i64.wrap ((i : Int) - po) = d0 := by rw [← hd0]; exact IntWalk.i64_in _ (by omega)
           clear hd0 hd2
           go_upto_region 44 with fail
           refine genQ (fun Y => newer w9 Y) (newer_trans HNX.out (newer_drewN _ _)) ?_
           intro wj hnj
           have HNJ := Lib.hid hnj
           clear v0 z0 z1 c1x c2x hnx
           have p4 := (HPB.out.below (newer_trans HH.out.nw (newer_trans HN9.out hnj)) HPB.out.lt).at 4 (v := vi po) rfl
           have HIK := Lib.hid (And.intro hlt hik)
           clear hnj hlt
           go_wp2_with fail
           clear p4 es1 hmx hik
           go_loopw [29] (fun s29 wr => ∃ m : Nat, s29 = vi m ∧ (i : Int) - po ≤ m ∧ m ≤ i + 1 ∧ newer w9 wr) (fun s29 _ => i + 1 - (intOf s29).toNat)
           case atStart => exact ⟨mx, rfl, hmxb.1, by omega, HNJ.out⟩
           case round =>
            obtain ⟨m, rfl, hm0, hm1, hnm⟩ := hrel
            have HNM := Lib.hid hnm
            have p3 := (HPB.out.below (newer_trans HH.out.nw (newer_trans HN9.out hnm)) HPB.out.lt).at 3 (v := vi pf) rfl
            obtain ⟨vb', vo', ev, _, v0⟩ := row1 (HVR.out.below (newer_trans HN9.out hnm)) HVV.out.1
            injection ev with ev
            injection ev with ev1 ev2
            subst ev1
            subst ev2
            rw [Nat.zero_add] at v0
            have hik := HIK.out.2
            by_cases hle : m ≤ i
            case pos =>
             have hmi : (m : Int) ≤ i := by omega
             by_cases hf : pf ≤ v
             case pos =>
              have hmk : m < k := by have := HIK.out.1; omega
              have hmk2 : (m : Int) < k := by omega
              obtain ⟨s2, hs2⟩ : ∃ s, Z[m]? = some s := ⟨_, List.getElem?_eq_getElem (by rw [HZL.out]; exact hmk)⟩
              have hl3 := call_level HST.out.1 HZS.out.2.2 HVV.out.1 hs2 hle (by rw [HPL.out.1]; exact hm0) (by rw [HPL.out.2]; exact hf) ⟨_, List.getElem?_eq_getElem (by rw [HVL.out]; exact hmk)⟩
              obtain ⟨zb', zo', ez, _, _, _, z2⟩ := rowSt (HZS.out.1.below (newer_trans HN98.out hnm)) hs2
              injection ez with ez
              injection ez with ez1 ez2
              subst ez1
              subst ez2
              rw [hl3] at z2
              clear hs2 hl3 hnm hmk
              go_wp2_with fail
              go_quiet (fail)
              go_wp2_with fail
              refine ⟨⟨m + 1, rfl, by omega, by omega, newer_trans HNM.out (newer_drewN _ _)⟩, ?_⟩
              simp [intOf]
              omega
             case neg =>
              clear hnm
              go_wp2_with fail
              go_quiet (fail)
              go_wp2_with fail
              refine ⟨⟨i + 1, by omega, rfl, newer_trans HNM.out (newer_drewN _ _)⟩, ?_⟩
              simp [intOf]
              omega
            case neg =>
             have hmi : ¬ (m : Int) ≤ i := by omega
             clear hnm
             go_wp2_with fail
             go_quiet (fail)
             go_wp2_with fail
             refine ⟨⟨i + 1, by omega, rfl, newer_trans HNM.out (newer_drewN _ _)⟩, ?_⟩
             simp [intOf]
             omega
          case neg =>
           have hie : i = k := by omega
           subst hie
           have hge : ¬ (i : Int) < i := by omega
           clear hlt
           go_wp2_with fail
           refine (watches_any _).mono ?_
           rintro e wk ⟨rfl, hb⟩
           have HK := Lib.hid (newer_trans (newer_trans HN4.out (newer_trans HH.out.nw (newer_trans HN9.out HNX.out))) hb)
           clear hb
           go_wp2_with fail
           go_ret
           exact ⟨rfl, HK.out⟩

end Go.Proofs.Ytpmafnifgegfbaa

namespace Go.Proofs.Ytpmafnifgegfbaa
open Go.ChangeShapes Go.WideShapes Go.ChangeAt Go.RowKit Go.Deep

set_option maxRecDepth 100000 in
set_option maxHeartbeats 1000000 in
theorem topWatched_lifted (os : Os) (started : os.Started) (H : Type) (enc : TypeId × Value → H) :
  ReturnsInHanded {} Try.checked os 3 .any (Rows.topWatchedSpec.pre6 enc Try.prog Try.f3 Rows.topWatchedRow.domain false) (Rows.topWatchedSpec.post enc Try.prog Try.f3 false true false false) := by
 refine returnsInHanded_of_change (C := Try.checked) Try.own started (by kernel_rfl) Try.func3
  (ChangeSpec.witness6 (enc := enc) (C := Try.checked) false ⟨#[], #[.agg #[.slice none 0 0, .int .i64 0, .slice none 0 0, .int .i64 0, .slice none 0 0], .int .u8 0, .int .u8 0, .int .u8 0, .slice none 0 0], []⟩ 8 (by kernel_rfl) (by kernel_rfl) (by kernel_rfl) (by kernel_rfl)) ?_
 intro W base args ds gs before hval0 hW hcnd _
 have hval : ∀ (j : Nat) t v, Try.f3.params[j]? = some t → args[j]? = some v → Value.okWide Try.prog W .any base t v := hval0
 have hW' := hW
 obtain ⟨p, q, hA0, hV, rfl, hfz, hnd⟩ := hW
 have hA : DataW.TrodAll enc Try.prog W 0 (fun _ => true) true Try.f3.params.toList args.toList ds p := hA0
 rw [Try.params3] at hA hval
 obtain ⟨v0, vs0, d0, ds0, p0, q0, hargs, rfl, rfl, h0, r0⟩ := trodAll_cons hA
 obtain ⟨v1, vs1, d1, ds1, p1, q1, rfl, rfl, rfl, h1, r1⟩ := trodAll_cons r0
 obtain ⟨v2, vs2, d2, ds2, p2, q2, rfl, rfl, rfl, h2, r2⟩ := trodAll_cons r1
 obtain ⟨v3, vs3, d3, ds3, p3, q3, rfl, rfl, rfl, h3, r3⟩ := trodAll_cons r2
 obtain ⟨v4, vs4, d4, ds4, p4, q4, rfl, rfl, rfl, h4, r4⟩ := trodAll_cons r3
 obtain ⟨rfl, rfl, rfl⟩ := trodAll_nil r4
 obtain rfl : args = #[v0, v1, v2, v3, v4] := by cases args; simp_all
 obtain ⟨rfl, rfl⟩ := trodVars_none hV
 obtain ⟨c0, rfl, hs0⟩ := okWide_struct Try.underlying26 (hval 0 26 v0 rfl rfl)
 have k0 := h0
 have lt0 : ∀ x ∈ p0, x.block < W.heap.size := by obtain ⟨m, hm⟩ := k0; exact DataW.trod_lt m _ _ _ hm
 obtain ⟨g0, e0, hrow0⟩ : ∃ p : Sm, c0.toList = (smC p).toList ∧ SmOk p W := by
  obtain ⟨fuel, hf⟩ := h0
  exact survey_open hf
 obtain rfl : c0 = smC g0 := Array.toList_inj.1 e0
 obtain ⟨a1, rfl, rfl, rfl, w1⟩ := open_int Try.underlying5 (hval 1 5 v1 rfl rfl) h1
 obtain ⟨a2, rfl, rfl, rfl, w2⟩ := open_int Try.underlying5 (hval 2 5 v2 rfl rfl) h2
 obtain ⟨a3, rfl, rfl, rfl, w3⟩ := open_int Try.underlying5 (hval 3 5 v3 rfl rfl) h3
 obtain ⟨a4, len4, cap4, rfl⟩ := okWide_slice Try.underlying27 (hval 4 27 v4 rfl rfl)
 have k4 := h4
 have lt4 : ∀ x ∈ p4, x.block < W.heap.size := by obtain ⟨m, hm⟩ := k4; exact DataW.trod_lt m _ _ _ hm
 obtain ⟨D4, l4, dp4, e4, hl4, hrow4⟩ : ∃ (D : Option Addr) (l : List Hlf) (dp : Nat), (Value.slice a4 len4 cap4).cells.toList = [.slice D l.length dp] ∧ l.length ≤ maxLen ∧ Row hwL 1 W W.heap.size D l := by
  obtain ⟨fuel, hf⟩ := h4
  exact halves_open hf
 simp [Value.cells] at e4
 obtain ⟨rfl, rfl, rfl⟩ := e4
 have hb1 : 0 ≤ a1 ∧ a1 ≤ 255 := by
  have h := w1
  simp [Lit.wf] at h
  exact h
 obtain ⟨n1, rfl⟩ : ∃ n : Nat, a1 = n := ⟨a1.toNat, by omega⟩
 have hb2 : 0 ≤ a2 ∧ a2 ≤ 255 := by
  have h := w2
  simp [Lit.wf] at h
  exact h
 obtain ⟨n2, rfl⟩ : ∃ n : Nat, a2 = n := ⟨a2.toNat, by omega⟩
 have hb3 : 0 ≤ a3 ∧ a3 ≤ 255 := by
  have h := w3
  simp [Lit.wf] at h
  exact h
 obtain ⟨n3, rfl⟩ : ∃ n : Nat, a3 = n := ⟨a3.toNat, by omega⟩
 clear hA0 hval0
 refine (topWatched_walk g0 n1 n2 n3 l4 a4 cap4 W hrow0 hl4 hrow4 (by omega) (by omega) (by omega)).mono fun e W' ⟨he, bel⟩ => ?_
 subst he
 exact ⟨_, rfl, _, _, _, [], _, [], hW', trodAll_mk1 (shut_bool Try.underlying4 _), (trodAll_cons_mk (Below.trod Try.laidOut (by kernel_rfl) (of_decide_eq_true (by kernel_rfl)) k0 bel lt0) (trodAll_cons_mk (shut_int Try.underlying5 w1) (trodAll_cons_mk (shut_int Try.underlying5 w2) (trodAll_cons_mk (shut_int Try.underlying5 w3) (trodAll_cons_mk (Below.trod Try.laidOut (by kernel_rfl) (of_decide_eq_true (by kernel_rfl)) k4 bel lt4) trodAll_mk0))))), rfl, bel.frame _, fun h => by cases h⟩

theorem topWatched_holds : Rows.TopWatchedSaid :=
 OpenClaim.holds_of_wide 3 Try.f3 rfl rfl rfl rfl rfl rfl rfl ⟨rfl, rfl, rfl, rfl, rfl⟩ rfl rfl rfl rfl rfl (by kernel_rfl) Try.func3 (by kernel_rfl)
  (of_decide_eq_true (by kernel_rfl)) (by unfold Func.isWrapper; first | (rw [if_pos (by decide +kernel)]; kernel_rfl) | (rw [if_neg (by decide +kernel)]; exact ⟨rfl, rfl⟩))
  (fun os started H enc _ => topWatched_lifted os started H enc)
#print axioms topWatched_holds

end Go.Proofs.Ytpmafnifgegfbaa
