/- The least factor, and a surface that has it. -/
import Derived.Test.YtkenokpobbichaaK
namespace Go.Proofs.Ytkenokpobbichaa
open Go.RowKit Go.Shelf Go.Deep

/-- The least factor of a slope, and a surface that has it. -/
def worstS (s : Sd) : Option ((Nat × List Nat) × Int) := worstR (hT (some false) s) (dAt s) s.n s.cols.length s.K
def worstOut (s : Sd) (w : World) (e : Ending) (w' : World) : Prop := match slopeB s, worstS s with
  | false, _ => e = .returned (.tuple #[.agg #[vi 0, .slice none 0 0], vi 0, vi 1])
  | true, none => e = .returned (.tuple #[.agg #[vi 0, .slice none 0 0], vi 0, vi 7])
  | true, some ((k, l), v) => ∃ A c, e = .returned (.tuple #[.agg #[vi k, .slice A l.length c], vi v, vi 0]) ∧ w'.ownsRow w.heap.size 3 1 (.slice A l.length c) l.length (l.map fun x : Nat => vi x)
theorem lowT_mono {s : Sd} (h : SdOk s) {f g : Nat} (hg : f ≤ g) (g1 : g ≤ 10001) (hl : (lowT s f (some false)).isSome = true) : (lowT s g (some false)).isSome = true :=
  lowF_mono (hd_ok h false) (by omega) (by omega) (by omega) hl
set_option maxRecDepth 100000 in
set_option maxHeartbeats 1000000 in
theorem worst_any (s : Sm) (w : World) (hok : SmOk s w) (few : SmFew s) : Calls Try.prog 25 #[smV s] w fun e w' => worstOut s.sd w e w' ∧ newer w w' := by
  have hnw : newer w ((w.alloc (.cells (smC s) 37)).alloc (.cells #[vi 0, .slice none 0 0] 39)) := newer_trans (newer_allocH _ _) (newer_allocH _ _)
  have hxb := (Whole.made w 37 (smC s)).alloc (.cells #[vi 0, .slice none 0 0] 39)
  have hrb := Whole.made (w.alloc (.cells (smC s) 37)) 39 #[vi 0, .slice none 0 0]
  rw [World.size_alloc] at hrb
  have HV := Lib.hid (valid_any s _ (hok.next hnw) few)
  have x0 := hxb.at 0 (v := .slice s.a s.cs.length s.c) rfl
  have x1 := hxb.at 1 (v := vi s.least) rfl
  have H0 := Lib.hid (And.intro hnw (And.intro hxb hrb))
  have HOK := Lib.hid hok
  clear hok hnw hxb hrb few
  cases hv : slopeB s.sd with
  | false =>
    rw [hv] at HV
    have HW := Lib.hid (show ∀ (w' : World), worstOut s.sd w (.returned (.tuple #[.agg #[vi 0, .slice none 0 0], vi 0, vi 1])) w' from fun w' => by unfold worstOut; rw [hv])
    clear hv
    go_enter Try.func25, Try.ntmps25
    go_wp2_with fail
    refine (HV.out).mono ?_
    rintro e w1 ⟨rfl, hb⟩
    have hr := H0.out.2.2.below hb H0.out.2.2.lt
    have r0 := hr.at 0 (v := vi 0) rfl
    have r1 := hr.at 1 (v := .slice none 0 0) rfl
    have f0 := hr.free 0
    have f1 := hr.free 1
    have hs0 := setCell_same r0
    have hs1 := setCell_same r1
    have HN := Lib.hid (newer_trans H0.out.1 hb)
    clear hr hb
    go_wp2_with fail
    exact bodyPost_ret (v := .tuple #[.agg #[vi 0, .slice none 0 0], vi 0, vi 1]) (by simp [results, Try.results25, go_sem, r0, r1]) rfl ⟨HW.out _, HN.out⟩
  | true =>
    rw [hv] at HV
    have hs := sdOk_iff.1 hv
    have HSD := Lib.hid hs
    obtain ⟨P, hP⟩ : ∃ P : Nat → Option (Nat × List Nat), P = fun f : Nat => lowT s.sd f (some false) := ⟨_, rfl⟩
    have HLOW : Hid (∀ (f : Nat) W, newer w W → f ≤ 10001 → Calls Try.prog 66 #[lkV s f (some false)] W fun e w' => lowOut (P f) W e w' ∧ newer W w') := Lib.hid (by
      intro f W h1 h2
      rw [hP]
      exact lower_any s f (some false) W (HOK.out.next h1) hs (by omega) (by omega))
    have HMO : Hid (∀ f g : Nat, f ≤ g → g ≤ 10001 → (P f).isSome = true → (P g).isSome = true) := Lib.hid (by
      rw [hP]
      exact fun f g h1 h2 h3 => lowT_mono hs h1 h2 h3)
    have HPE := Lib.hid hP
    have HZL : Hid (∀ W, newer w W → Calls Try.prog 66 #[lkV s 1 none] W fun e w' => lowOut (lowT s.sd 1 none) W e w' ∧ newer W w') := Lib.hid (fun W h1 => lower_any s 1 none W (HOK.out.next h1) hs (by omega) (by omega))
    have HTV := Lib.hid hv
    clear hv hP hs
    go_enter Try.func25, Try.ntmps25
    go_wp2_with fail
    refine (HV.out).mono ?_
    rintro e w1 ⟨rfl, hb⟩
    have H1 := Lib.hid (And.intro (newer_trans H0.out.1 hb) (And.intro (H0.out.2.1.below hb H0.out.2.1.lt) (H0.out.2.2.below hb H0.out.2.2.lt)))
    clear H0 hb HV x0 x1
    go_wp2_with fail
    go_loopw [5, 6] (fun s5 s6 wr => ∃ lo hi : Nat, s5 = vi lo ∧ s6 = vi hi ∧ 1 ≤ lo ∧ lo ≤ hi ∧ hi ≤ 10001 ∧ newer w wr ∧ Whole wr w.heap.size 37 (smC s) ∧ Whole wr (w.heap.size + 1) 39 #[vi 0, .slice none 0 0] ∧ (∀ m, 1 ≤ m → m < lo → (P m).isSome = false) ∧ (hi < 10001 → (P hi).isSome = true)) (fun s5 s6 _ => (intOf s6).toNat - (intOf s5).toNat)
    case atStart => exact ⟨1, 10001, rfl, rfl, Nat.le_refl _, by omega, Nat.le_refl _, H1.out.1, H1.out.2.1, H1.out.2.2, fun m h1 h2 => by omega, fun h => by omega⟩
    case round =>
      obtain ⟨lo, hi, rfl, rfl, b1, b2, b3, q1, q2, q3, q4, q5⟩ := hrel
      have x0 := q2.at 0 (v := .slice s.a s.cs.length s.c) rfl
      have x1 := q2.at 1 (v := vi s.least) rfl
      have H2 := Lib.hid (And.intro q1 (And.intro q2 q3))
      have HQ := Lib.hid (And.intro q4 q5)
      clear q1 q2 q3 q4 q5 H1
      by_cases hlt : lo < hi
      · obtain ⟨n, hn⟩ : ∃ n, n = (lo + hi) / 2 := ⟨_, rfl⟩
        have hnb : lo ≤ n ∧ n < hi := by omega
        have hni : ((lo : Int) + hi) / 2 = n := by omega
        clear hn
        go_wp2_with fail
        refine (below_any s n _).mono ?_
        rintro e w3 ⟨rfl, hb3⟩
        have H3 := Lib.hid (And.intro (newer_trans H2.out.1 hb3) (And.intro (H2.out.2.1.below hb3 H2.out.2.1.lt) (H2.out.2.2.below hb3 H2.out.2.2.lt)))
        clear H2 hb3 x0 x1
        go_wp2_with fail
        refine (HLOW.out n w3 H3.out.1 (by omega)).mono ?_
        rintro e w4 ⟨hout, hb4⟩
        have H4 := Lib.hid (And.intro (newer_trans H3.out.1 hb4) (And.intro (H3.out.2.1.below hb4 H3.out.2.1.lt) (H3.out.2.2.below hb4 H3.out.2.2.lt)))
        clear H3 hb4
        cases hpn : P n with
        | none =>
          rw [hpn] at hout
          have hout2 : e = .returned (.tuple #[.agg #[vi 0, .slice none 0 0], .bool false]) := hout
          subst hout2
          have HPN := Lib.hid hpn
          clear hpn hout
          have e1 := newer_allocH w4 (.cells #[vi 0, .slice none 0 0] 39)
          have H5 := Lib.hid (And.intro (newer_trans H4.out.1 e1) (And.intro (H4.out.2.1.below e1 H4.out.2.1.lt) (H4.out.2.2.below e1 H4.out.2.2.lt)))
          clear e1
          go_wp2_with fail
          refine ⟨⟨n + 1, hi, rfl, rfl, by omega, by omega, b3, H5.out.1, H5.out.2.1, H5.out.2.2, fun m h1 h2 => ?_, HQ.out.2⟩, ?_⟩
          · cases hm : (P m).isSome with
            | false => rfl
            | true =>
              have h3 := HMO.out m n (by omega) (by omega) hm
              rw [HPN.out] at h3
              cases h3
          · simp [intOf]
            omega
        | some u =>
          obtain ⟨k, l⟩ := u
          rw [hpn] at hout
          have hout2 : ∃ A c, e = .returned (.tuple #[.agg #[vi k, .slice A l.length c], .bool true]) ∧ w4.ownsRow w3.heap.size 3 1 (.slice A l.length c) l.length (l.map fun x : Nat => vi x) := hout
          obtain ⟨A, c, rfl, _⟩ := hout2
          have HPN := Lib.hid hpn
          clear hpn hout
          have e1 := newer_allocH w4 (.cells #[vi k, .slice A l.length c] 39)
          have H5 := Lib.hid (And.intro (newer_trans H4.out.1 e1) (And.intro (H4.out.2.1.below e1 H4.out.2.1.lt) (H4.out.2.2.below e1 H4.out.2.2.lt)))
          clear e1
          go_wp2_with fail
          refine ⟨⟨lo, n, rfl, rfl, b1, hnb.1, by omega, H5.out.1, H5.out.2.1, H5.out.2.2, HQ.out.1, fun _ => by rw [HPN.out]; rfl⟩, ?_⟩
          simp [intOf]
          omega
      · obtain rfl : hi = lo := by omega
        have hL : worstL (hT (some false) s.sd) (dAt s.sd) s.sd.n s.sd.cols.length s.sd.K = hi := (firstN_unique b1 (by omega) (fun m h1 h2 => by have h3 := HQ.out.1 m h1 h2; rw [HPE.out] at h3; exact h3) (fun h => by have h3 := HQ.out.2 (by omega); rw [HPE.out] at h3; exact h3)).symm
        by_cases hle : hi ≤ 10000
        · have hW : worstS s.sd = (P hi).map fun u => (u, (hi : Int) - 1) := by
            unfold worstS worstR
            rw [hL, if_pos hle, HPE.out]
            rfl
          have HW := Lib.hid hW
          have HSO := Lib.hid (HQ.out.2 (by omega))
          clear hW hL
          go_wp2_with fail
          refine (below_any s hi _).mono ?_
          rintro e w3 ⟨rfl, hb3⟩
          have H3 := Lib.hid (And.intro (newer_trans H2.out.1 hb3) (And.intro (H2.out.2.1.below hb3 H2.out.2.1.lt) (H2.out.2.2.below hb3 H2.out.2.2.lt)))
          clear H2 hb3 x0 x1
          go_wp2_with fail
          refine (HLOW.out hi w3 H3.out.1 (by omega)).mono ?_
          rintro e w4 ⟨hout, hb4⟩
          have H4 := Lib.hid (And.intro (newer_trans H3.out.1 hb4) (And.intro (H3.out.2.1.below hb4 H3.out.2.1.lt) (H3.out.2.2.below hb4 H3.out.2.2.lt)))
          have HB3 := Lib.hid H3.out.1.size
          clear H3 hb4
          cases hpn : P hi with
          | none =>
            have h3 := HSO.out
            rw [hpn] at h3
            cases h3
          | some u =>
            obtain ⟨k, l⟩ := u
            rw [hpn] at hout
            have hout2 : ∃ A c, e = .returned (.tuple #[.agg #[vi k, .slice A l.length c], .bool true]) ∧ w4.ownsRow w3.heap.size 3 1 (.slice A l.length c) l.length (l.map fun x : Nat => vi x) := hout
            obtain ⟨A, c, rfl, ho⟩ := hout2
            have e3 : worstS s.sd = some ((k, l), (hi : Int) - 1) := by rw [HW.out, hpn]; rfl
            clear hpn hout
            have hn3 := newer_allocH w4 (.cells #[vi k, .slice A l.length c] 39)
            have hr := H4.out.2.2.below hn3 H4.out.2.2.lt
            have r0 := hr.at 0 (v := vi 0) rfl
            have r1 := hr.at 1 (v := .slice none 0 0) rfl
            have f0 := hr.free 0
            have f1 := hr.free 1
            have hset := (hr.set 0 (vi k)).set 1 (.slice A l.length c)
            have s0 := hset.at 0 (v := vi k) rfl
            have s1 := hset.at 1 (v := .slice A l.length c) rfl
            have HF : Hid (worstOut s.sd w (.returned (.tuple #[.agg #[vi k, .slice A l.length c], vi ((hi : Int) - 1), vi 0])) (((w4.alloc (.cells #[vi k, .slice A l.length c] 39)).setCell ⟨w.heap.size + 1, 0, none⟩ (vi k)).setCell ⟨w.heap.size + 1, 1, none⟩ (.slice A l.length c)) ∧ newer w (((w4.alloc (.cells #[vi k, .slice A l.length c] 39)).setCell ⟨w.heap.size + 1, 0, none⟩ (vi k)).setCell ⟨w.heap.size + 1, 1, none⟩ (.slice A l.length c))) := Lib.hid (by
              have o1 := own_below ho hn3
              refine ⟨?_, ((newer_trans H4.out.1 hn3).setCell (p := ⟨w.heap.size + 1, 0, none⟩) (Nat.le_succ _) _).setCell (p := ⟨w.heap.size + 1, 1, none⟩) (Nat.le_succ _) _⟩
              unfold worstOut
              rw [HTV.out, e3]
              exact ⟨A, c, rfl, own_set (own_set (own_more o1 HB3.out) (own_ne o1 hr (by decide)) _) (own_ne o1 hr (by decide)) _⟩)
            clear hset hn3 hr e3 ho
            go_wp2_with fail
            exact bodyPost_ret (v := .tuple #[.agg #[vi k, .slice A l.length c], vi ((hi : Int) - 1), vi 0]) (by simp [results, Try.results25, go_sem, s0, s1]) rfl HF.out
        · have hW : worstS s.sd = (lowT s.sd 1 none).map fun u => (u, 10000) := by
            unfold worstS worstR
            rw [hL, if_neg hle]
            rfl
          have HW := Lib.hid hW
          clear hW hL
          go_wp2_with fail
          refine (HZL.out wr H2.out.1).mono ?_
          rintro e w4 ⟨hout, hb4⟩
          have H4 := Lib.hid (And.intro (newer_trans H2.out.1 hb4) (And.intro (H2.out.2.1.below hb4 H2.out.2.1.lt) (H2.out.2.2.below hb4 H2.out.2.2.lt)))
          have HB3 := Lib.hid H2.out.1.size
          clear H2 hb4 x0 x1
          cases hpn : lowT s.sd 1 none with
          | none =>
            rw [hpn] at hout
            have hout2 : e = .returned (.tuple #[.agg #[vi 0, .slice none 0 0], .bool false]) := hout
            subst hout2
            have HF : Hid (∀ w', worstOut s.sd w (.returned (.tuple #[.agg #[vi 0, .slice none 0 0], vi 0, vi 7])) w') := Lib.hid (by
              intro w'
              unfold worstOut
              rw [HTV.out, HW.out, hpn]
              rfl)
            clear hpn hout
            have e1 := newer_allocH w4 (.cells #[vi 0, .slice none 0 0] 39)
            have hr := H4.out.2.2.below e1 H4.out.2.2.lt
            have r0 := hr.at 0 (v := vi 0) rfl
            have r1 := hr.at 1 (v := .slice none 0 0) rfl
            have f0 := hr.free 0
            have f1 := hr.free 1
            have hs0 := setCell_same r0
            have hs1 := setCell_same r1
            have HN := Lib.hid (newer_trans H4.out.1 e1)
            clear hr e1
            go_wp2_with fail
            exact bodyPost_ret (v := .tuple #[.agg #[vi 0, .slice none 0 0], vi 0, vi 7]) (by simp [results, Try.results25, go_sem, r0, r1]) rfl ⟨HF.out _, HN.out⟩
          | some u =>
            obtain ⟨k, l⟩ := u
            rw [hpn] at hout
            have hout2 : ∃ A c, e = .returned (.tuple #[.agg #[vi k, .slice A l.length c], .bool true]) ∧ w4.ownsRow wr.heap.size 3 1 (.slice A l.length c) l.length (l.map fun x : Nat => vi x) := hout
            obtain ⟨A, c, rfl, ho⟩ := hout2
            have e3 : worstS s.sd = some ((k, l), 10000) := by rw [HW.out, hpn]; rfl
            clear hpn hout
            have hn3 := newer_allocH w4 (.cells #[vi k, .slice A l.length c] 39)
            have hr := H4.out.2.2.below hn3 H4.out.2.2.lt
            have r0 := hr.at 0 (v := vi 0) rfl
            have r1 := hr.at 1 (v := .slice none 0 0) rfl
            have f0 := hr.free 0
            have f1 := hr.free 1
            have hset := (hr.set 0 (vi k)).set 1 (.slice A l.length c)
            have s0 := hset.at 0 (v := vi k) rfl
            have s1 := hset.at 1 (v := .slice A l.length c) rfl
            have HF : Hid (worstOut s.sd w (.returned (.tuple #[.agg #[vi k, .slice A l.length c], vi 10000, vi 0])) (((w4.alloc (.cells #[vi k, .slice A l.length c] 39)).setCell ⟨w.heap.size + 1, 0, none⟩ (vi k)).setCell ⟨w.heap.size + 1, 1, none⟩ (.slice A l.length c)) ∧ newer w (((w4.alloc (.cells #[vi k, .slice A l.length c] 39)).setCell ⟨w.heap.size + 1, 0, none⟩ (vi k)).setCell ⟨w.heap.size + 1, 1, none⟩ (.slice A l.length c))) := Lib.hid (by
              have o1 := own_below ho hn3
              refine ⟨?_, ((newer_trans H4.out.1 hn3).setCell (p := ⟨w.heap.size + 1, 0, none⟩) (Nat.le_succ _) _).setCell (p := ⟨w.heap.size + 1, 1, none⟩) (Nat.le_succ _) _⟩
              unfold worstOut
              rw [HTV.out, e3]
              exact ⟨A, c, rfl, own_set (own_set (own_more o1 HB3.out) (own_ne o1 hr (by decide)) _) (own_ne o1 hr (by decide)) _⟩)
            clear hset hn3 hr e3 ho
            go_wp2_with fail
            exact bodyPost_ret (v := .tuple #[.agg #[vi k, .slice A l.length c], vi 10000, vi 0]) (by simp [results, Try.results25, go_sem, s0, s1]) rfl HF.out

end Go.Proofs.Ytkenokpobbichaa
