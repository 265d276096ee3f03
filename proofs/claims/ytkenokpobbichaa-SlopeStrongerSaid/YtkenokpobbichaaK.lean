/- Some surface that costs less than nothing. -/
import Derived.Test.YtkenokpobbichaaJ
namespace Go.Proofs.Ytkenokpobbichaa
open Go.RowKit Go.Shelf Go.Deep

theorem cheap_to (s : Sm) (f : Int) (t : Option Bool) (k tz : Nat) (w : World) (hok : SmOk s w) (hs : SdOk s.sd) (f0 : 0 ≤ f) (f1 : f ≤ 10001) (hk : k ≤ tz) (ht : tz < s.cs.length) :
    Calls Try.prog 98 #[lkV s f t, vi k, vi tz] w fun e w' => ∃ q c, e = .returned (.tuple #[.agg #[vi k, .slice (some ⟨q, 0, none⟩) (tz - k + 1) c], vi (cheapN (cF (hT t s.sd) (dAt s.sd) f) s.sd.n bigN (tz - k) k).2]) ∧ newer w w' ∧ w'.ownsRow w.heap.size 3 1 (.slice (some ⟨q, 0, none⟩) (tz - k + 1) c) (tz - k + 1) ((cheapN (cF (hT t s.sd) (dAt s.sd) f) s.sd.n bigN (tz - k) k).1.map fun x : Nat => vi x) := by
  have h := cheap_any s f t k (tz - k) w hok hs f0 f1 (by omega)
  rw [show k + (tz - k) = tz by omega] at h
  exact h
/-- A surface that was found, or none. -/
def lowOut (R : Option (Nat × List Nat)) (w : World) (e : Ending) (w' : World) : Prop := match R with
  | none => e = .returned (.tuple #[.agg #[vi 0, .slice none 0 0], .bool false])
  | some (k, l) => ∃ A c, e = .returned (.tuple #[.agg #[vi k, .slice A l.length c], .bool true]) ∧ w'.ownsRow w.heap.size 3 1 (.slice A l.length c) l.length (l.map fun x : Nat => vi x)
/-- The surface that is lower, in some truth. -/
def lowT (s : Sd) (f : Int) (t : Option Bool) : Option (Nat × List Nat) := lowF (hT t s) (dAt s) s.n s.cols.length s.K f
set_option maxRecDepth 100000 in
set_option maxHeartbeats 1000000 in
theorem lower_any (s : Sm) (f : Int) (t : Option Bool) (w : World) (hok : SmOk s w) (hs : SdOk s.sd) (f0 : 0 ≤ f) (f1 : f ≤ 10001) :
    Calls Try.prog 66 #[lkV s f t] w fun e w' => lowOut (lowT s.sd f t) w e w' ∧ newer w w' := by
  obtain ⟨R, hR⟩ : ∃ R, R = lowT s.sd f t := ⟨_, rfl⟩
  rw [← hR]
  obtain ⟨c, hc⟩ : ∃ c, c = cF (hT t s.sd) (dAt s.sd) f := ⟨_, rfl⟩
  obtain ⟨n, hn⟩ : ∃ n, n = s.sd.n := ⟨_, rfl⟩
  obtain ⟨K, hK⟩ : ∃ K, K = s.sd.K := ⟨_, rfl⟩
  have HCH : Hid (∀ k tz W, SmOk s W → k ≤ tz → tz < s.cs.length → Calls Try.prog 98 #[lkV s f t, vi k, vi tz] W fun e w' => ∃ q cc, e = .returned (.tuple #[.agg #[vi k, .slice (some ⟨q, 0, none⟩) (tz - k + 1) cc], vi (cheapN c n bigN (tz - k) k).2]) ∧ newer W w' ∧ w'.ownsRow W.heap.size 3 1 (.slice (some ⟨q, 0, none⟩) (tz - k + 1) cc) (tz - k + 1) ((cheapN c n bigN (tz - k) k).1.map fun x : Nat => vi x)) := Lib.hid (by
    intro k tz W h1 h2 h3
    rw [hc, hn]
    exact cheap_to s f t k tz W h1 hs f0 f1 h2 h3)
  have hl0 : lowS c n bigN s.cs.length K 0 s.cs.length = R := by
    rw [hR, hc, hn, hK]
    unfold lowT lowF
    rw [sd_len]
  have hkl : (K : Int) = s.least ∧ 1 ≤ K ∧ K ≤ 4 := by
    have h1 := hs.least
    have h2 : s.sd.least = s.least := rfl
    rw [hK]
    unfold Sd.K
    omega
  have hcl : s.cs.length ≤ 12 := by have h1 := hs.cols; rw [sd_len] at h1; omega
  have hnw : newer w ((w.alloc (.cells (lkC s f t) 115)).alloc (.cells #[vi 0, .slice none 0 0] 39)) := newer_trans (newer_allocH _ _) (newer_allocH _ _)
  have hxb := (Whole.made w 115 (lkC s f t)).alloc (.cells #[vi 0, .slice none 0 0] 39)
  have hrb := Whole.made (w.alloc (.cells (lkC s f t) 115)) 39 #[vi 0, .slice none 0 0]
  rw [World.size_alloc] at hrb
  have H0 := Lib.hid (And.intro hnw (And.intro hxb hrb))
  have x0 := hxb.at 0 (v := .slice s.a s.cs.length s.c) rfl
  have HOK := Lib.hid hok
  have HL0 := Lib.hid hl0
  clear hR hc hn hK hs f0 f1 hok hl0 hnw hxb hrb
  go_enter Try.func66, Try.ntmps66
  go_wp2_with fail
  refine wp_scope_straight ?_
  go_wp2_with fail
  refine wp_label ?_
  go_wp2_with fail
  go_loopw [3, 12] (fun s3 s12 wr => ∃ i : Nat, s3 = .bool false ∧ i ≤ s.cs.length ∧ s12 = vi i ∧ newer w wr ∧ Whole wr w.heap.size 115 (lkC s f t) ∧ Whole wr (w.heap.size + 1) 39 #[vi 0, .slice none 0 0] ∧ lowS c n bigN s.cs.length K i (s.cs.length - i) = R) (fun _ s12 _ => s.cs.length - (intOf s12).toNat)
  case atStart => exact ⟨0, rfl, Nat.zero_le _, rfl, H0.out.1, H0.out.2.1, H0.out.2.2, HL0.out⟩
  case round =>
    obtain ⟨i, rfl, hi, rfl, q1, q2, q3, q4⟩ := hrel
    have x0 := q2.at 0 (v := .slice s.a s.cs.length s.c) rfl
    have x1 := q2.at 1 (v := vi s.least) rfl
    have H1 := Lib.hid (And.intro q1 (And.intro q2 q3))
    have HR := Lib.hid q4
    by_cases hlt : i < s.cs.length
    · have HIN : Hid (R = match lowIn c n bigN i (K - 1) (s.cs.length - (i + (K - 1))) with | some l => some (i, l) | none => lowS c n bigN s.cs.length K (i + 1) (s.cs.length - (i + 1))) := Lib.hid (by
        rw [← q4, show s.cs.length - i = (s.cs.length - (i + 1)) + 1 by omega]
        rfl)
      clear q1 q2 q3 q4
      obtain ⟨wo, rfl⟩ : ∃ wo : World, wo = wr := ⟨_, rfl⟩
      go_wp2_with fail
      go_loopw [3, 5] (fun s3 s5 wr => ∃ tz : Nat, s3 = .bool false ∧ s5 = vi tz ∧ i + (K - 1) ≤ tz ∧ tz ≤ 20 ∧ newer w wr ∧ Whole wr w.heap.size 115 (lkC s f t) ∧ Whole wr (w.heap.size + 1) 39 #[vi 0, .slice none 0 0] ∧ lowIn c n bigN i (K - 1) (s.cs.length - (i + (K - 1))) = lowIn c n bigN i (tz - i) (s.cs.length - tz)) (fun _ s5 _ => 30 - (intOf s5).toNat)
      case atStart => exact ⟨i + (K - 1), rfl, by rw [show (i : Int) + s.least - 1 = ((i + (K - 1) : Nat) : Int) by omega], Nat.le_refl _, by omega, H1.out.1, H1.out.2.1, H1.out.2.2, by rw [show i + (K - 1) - i = K - 1 by omega]⟩
      case round =>
        obtain ⟨tz, rfl, rfl, ht1, ht2, q1, q2, q3, q4⟩ := hrel
        have x0 := q2.at 0 (v := .slice s.a s.cs.length s.c) rfl
        have x1 := q2.at 1 (v := vi s.least) rfl
        have x2 := q2.at 2 (v := vi f) rfl
        have x3 := q2.at 3 (v := .func (.func (trF t)) #[] #[]) rfl
        have H2 := Lib.hid (And.intro q1 (And.intro q2 q3))
        clear H1
        by_cases hlt2 : tz < s.cs.length
        · have HQ : Hid (lowIn c n bigN i (K - 1) (s.cs.length - (i + (K - 1))) = if (cheapN c n bigN (tz - i) i).2 < 0 then some (cheapN c n bigN (tz - i) i).1 else lowIn c n bigN i (tz - i + 1) (s.cs.length - (tz + 1))) := Lib.hid (by
            rw [q4, show s.cs.length - tz = (s.cs.length - (tz + 1)) + 1 by omega]
            rfl)
          have hpl : (cheapN c n bigN (tz - i) i).1.length = tz - i + 1 := path_len _ _ _
          have HC := Lib.hid (HCH.out i tz wr (HOK.out.next q1) (by omega) hlt2)
          obtain ⟨p, hp⟩ : ∃ p, p = cheapN c n bigN (tz - i) i := ⟨_, rfl⟩
          rw [← hp] at HQ HC hpl
          have HPL := Lib.hid hpl
          clear hp hpl q1 q2 q3 q4
          obtain ⟨lv, cv⟩ := p
          go_wp2_with fail
          refine (HC.out).mono ?_
          rintro e w3 ⟨q, cc, rfl, hb3, hown⟩
          have H3 := Lib.hid (And.intro (newer_trans H2.out.1 hb3) (And.intro (H2.out.2.1.below hb3 H2.out.2.1.lt) (H2.out.2.2.below hb3 H2.out.2.2.lt)))
          have HB := Lib.hid (And.intro hown H2.out.1.size)
          clear H2 HC hb3 hown x0 x1 x2 x3
          by_cases hneg : cv < 0
          · have hn3 := newer_allocH w3 (.cells #[vi i, .slice (some ⟨q, 0, none⟩) (tz - i + 1) cc] 39)
            have hr := H3.out.2.2.below hn3 H3.out.2.2.lt
            have r0 := hr.at 0 (v := vi 0) rfl
            have r1 := hr.at 1 (v := .slice none 0 0) rfl
            have f0 := hr.free 0
            have f1 := hr.free 1
            have hset := (hr.set 0 (vi i)).set 1 (.slice (some ⟨q, 0, none⟩) (tz - i + 1) cc)
            have s0 := hset.at 0 (v := vi i) rfl
            have s1 := hset.at 1 (v := .slice (some ⟨q, 0, none⟩) (tz - i + 1) cc) rfl
            have hs0 := setCell_same s0
            have hs1 := setCell_same s1
            have HF : Hid (lowOut R w (.returned (.tuple #[.agg #[vi i, .slice (some ⟨q, 0, none⟩) (tz - i + 1) cc], .bool true])) (((w3.alloc (.cells #[vi i, .slice (some ⟨q, 0, none⟩) (tz - i + 1) cc] 39)).setCell ⟨w.heap.size + 1, 0, none⟩ (vi i)).setCell ⟨w.heap.size + 1, 1, none⟩ (.slice (some ⟨q, 0, none⟩) (tz - i + 1) cc)) ∧ newer w (((w3.alloc (.cells #[vi i, .slice (some ⟨q, 0, none⟩) (tz - i + 1) cc] 39)).setCell ⟨w.heap.size + 1, 0, none⟩ (vi i)).setCell ⟨w.heap.size + 1, 1, none⟩ (.slice (some ⟨q, 0, none⟩) (tz - i + 1) cc))) := Lib.hid (by
              have e1 := HQ.out
              rw [if_pos hneg] at e1
              have e2 := HIN.out
              rw [e1] at e2
              have e3 : R = some (i, lv) := e2
              have o1 := own_below HB.out.1 hn3
              refine ⟨?_, ((newer_trans H3.out.1 hn3).setCell (p := ⟨w.heap.size + 1, 0, none⟩) (Nat.le_succ _) _).setCell (p := ⟨w.heap.size + 1, 1, none⟩) (Nat.le_succ _) _⟩
              rw [e3]
              refine ⟨some ⟨q, 0, none⟩, cc, by rw [HPL.out], ?_⟩
              rw [HPL.out]
              exact own_set (own_set (own_more o1 HB.out.2) (own_ne o1 hr (by decide)) _) (own_ne o1 hr (by decide)) _)
            clear hset hn3 hr
            go_wp2_with fail
            dsimp only [Exit.noGoto]
            refine bodyPost_ret (v := .tuple #[.agg #[vi i, .slice (some ⟨q, 0, none⟩) (tz - i + 1) cc], .bool true]) ?_ rfl HF.out
            simp [results, Try.results66, go_sem, s0, s1]
          · have hn3 := newer_allocH w3 (.cells #[vi i, .slice (some ⟨q, 0, none⟩) (tz - i + 1) cc] 39)
            have HF : Hid (newer w (w3.alloc (.cells #[vi i, .slice (some ⟨q, 0, none⟩) (tz - i + 1) cc] 39)) ∧ Whole (w3.alloc (.cells #[vi i, .slice (some ⟨q, 0, none⟩) (tz - i + 1) cc] 39)) w.heap.size 115 (lkC s f t) ∧ Whole (w3.alloc (.cells #[vi i, .slice (some ⟨q, 0, none⟩) (tz - i + 1) cc] 39)) (w.heap.size + 1) 39 #[vi 0, .slice none 0 0]) := Lib.hid ⟨newer_trans H3.out.1 hn3, H3.out.2.1.below hn3 H3.out.2.1.lt, H3.out.2.2.below hn3 H3.out.2.2.lt⟩
            have HL : Hid (lowIn c n bigN i (K - 1) (s.cs.length - (i + (K - 1))) = lowIn c n bigN i (tz + 1 - i) (s.cs.length - (tz + 1))) := Lib.hid (by
              have e1 := HQ.out
              rw [if_neg hneg] at e1
              rw [e1, show tz + 1 - i = tz - i + 1 by omega])
            clear hn3
            go_wp2_with fail
            refine ⟨⟨tz + 1, rfl, rfl, by omega, by omega, HF.out.1, HF.out.2.1, HF.out.2.2, HL.out⟩, ?_⟩
            simp [intOf]
            omega
        · have HL : Hid (R = lowS c n bigN s.cs.length K (i + 1) (s.cs.length - (i + 1))) := Lib.hid (by
            have e1 := HIN.out
            rw [q4, show s.cs.length - tz = 0 by omega] at e1
            exact e1)
          clear q1 q2 q3 q4
          go_wp2_with fail
          refine ⟨⟨i + 1, rfl, by omega, rfl, H2.out.1, H2.out.2.1, H2.out.2.2, HL.out.symm⟩, ?_⟩
          simp [intOf]
          omega
    · have e3 : R = none := by
        rw [← q4, show s.cs.length - i = 0 by omega]
        rfl
      have r0 := q3.at 0 (v := vi 0) rfl
      have r1 := q3.at 1 (v := .slice none 0 0) rfl
      have f0 := q3.free 0
      have f1 := q3.free 1
      have hs0 := setCell_same r0
      have hs1 := setCell_same r1
      have HF : Hid (lowOut R w (.returned (.tuple #[.agg #[vi 0, .slice none 0 0], .bool false])) wr ∧ newer w wr) := Lib.hid (by
        rw [e3]
        exact ⟨rfl, q1⟩)
      clear q1 q2 q3 q4 e3 H1 HR
      go_wp2_with fail
      dsimp only [Exit.noGoto]
      refine bodyPost_ret (v := .tuple #[.agg #[vi 0, .slice none 0 0], .bool false]) ?_ rfl HF.out
      simp [results, Try.results66, go_sem, r0, r1]

end Go.Proofs.Ytkenokpobbichaa
