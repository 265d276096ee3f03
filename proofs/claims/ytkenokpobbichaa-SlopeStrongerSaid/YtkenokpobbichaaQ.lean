/- How much more water a slope bears. -/
import Derived.Test.YtkenokpobbichaaO
namespace Go.Proofs.Ytkenokpobbichaa
open Go.RowKit Go.Shelf Go.Deep

theorem lowW_is (s : Sd) (m f : Int) : lowT (wetS s m) f (some false) = lowF (hAt false (wetS s m)) (dAt s) s.n s.cols.length s.K f := by
  unfold lowT
  rw [wet_drive, wet_n]
  have e1 : (wetS s m).cols.length = s.cols.length := by simp [wetS]
  rw [e1]
  rfl
def marginS (s : Sd) (f : Int) : Nat := marginN (fun m => hAt false (wetS s m)) (dAt s) s.n s.cols.length s.K f
theorem wet_hd {s : Sd} (h : SdOk s) (m : Nat) : HdOk (hAt false (wetS s m)) (dAt s) s.n s.cols.length s.K := by
  have h1 := hd_ok (wet_ok (m := m) (by omega) h) false
  rw [wet_drive, wet_n] at h1
  have e1 : (wetS s m).cols.length = s.cols.length := by simp [wetS]
  rw [e1] at h1
  exact h1
theorem margin_of {s : Sd} (h : SdOk s) {f : Int} (f0 : 0 ≤ f) (f1 : f ≤ 10001) {m : Nat} (h1 : m ≤ 100000) (h2 : lowT (wetS s m) f (some false) = none) (h3 : m < 100000 → (lowT (wetS s (m + 1 : Nat)) f (some false)).isSome = true) : m = marginS s f := by
  rw [lowW_is] at h2
  refine margin_unique (hw := fun m => hAt false (wetS s m)) (wet_hd h) (fun m k b => wet_hold h (by omega) k b) f0 f1 h1 h2 (fun h4 => ?_)
  have h5 := h3 h4
  rw [lowW_is] at h5
  exact h5
theorem low_wet_mono {s : Sd} (h : SdOk s) {f : Int} (f0 : 0 ≤ f) (f1 : f ≤ 10001) {m m' : Nat} (hm : m ≤ m') (h1 : (lowT (wetS s m) f (some false)).isSome = true) : (lowT (wetS s m') f (some false)).isSome = true := by
  rw [lowW_is] at h1 ⊢
  exact low_weak (wet_hd h m) (wet_hd h m') (fun k b => wet_hold h (by omega) k b) f0 f1 h1
def marginOut (s : Sd) (f : Int) : Value := .tuple (if enoughN s f = 0 then #[vi (marginS s f), vi 0] else #[vi 0, vi (enoughN s f)])
theorem enough_zero {s : Sd} {f : Int} (h : enoughN s f = 0) : SdOk s ∧ 0 ≤ f ∧ f ≤ 10000 ∧ lowT s f (some false) = none := by
  unfold enoughN at h
  by_cases ha : askedN s f = 0
  · rw [if_pos ha] at h
    obtain ⟨h1, h2, h3⟩ := asked_zero ha
    refine ⟨h1, h2, h3, ?_⟩
    cases hl : lowT s f (some false) with
    | none => rfl
    | some u => rw [hl] at h; simp at h
  · rw [if_neg ha] at h
    exact absurd h ha
set_option maxRecDepth 100000 in
set_option maxHeartbeats 1000000 in
theorem margin_any (s : Sm) (f : Int) (w : World) (hok : SmOk s w) (few : SmFew s) : Calls Try.prog 31 #[smV s, vi f] w fun e w' => e = .returned (marginOut s.sd f) ∧ newer w w' := by
  have hnw : newer w (w.alloc (.cells (smC s) 37)) := newer_allocH _ _
  have hxb := Whole.made w 37 (smC s)
  have HA := Lib.hid (enough_any s f (w.alloc (.cells (smC s) 37)) (hok.next hnw) few)
  have x0 := hxb.at 0 (v := .slice s.a s.cs.length s.c) rfl
  have x1 := hxb.at 1 (v := vi s.least) rfl
  have H0 := Lib.hid (And.intro hnw hxb)
  have HOK := Lib.hid hok
  clear hok hnw hxb few
  unfold marginOut
  have HZ : Hid (enoughN s.sd f = 0 → SdOk s.sd ∧ 0 ≤ f ∧ f ≤ 10000 ∧ lowT s.sd f (some false) = none) := Lib.hid enough_zero
  obtain ⟨a, ha⟩ : ∃ a, a = enoughN s.sd f := ⟨_, rfl⟩
  rw [← ha] at HA HZ ⊢
  clear ha
  by_cases hz : a = 0
  · subst hz
    obtain ⟨hs, f0, f1, hl0⟩ := HZ.out rfl
    rw [if_pos rfl]
    obtain ⟨mg, hmg⟩ : ∃ mg, mg = marginS s.sd f := ⟨_, rfl⟩
    have HMG := Lib.hid hmg
    rw [← hmg]
    clear hmg
    obtain ⟨P, hP⟩ : ∃ P : Nat → Option (Nat × List Nat), P = fun m : Nat => lowT (wetS s.sd m) f (some false) := ⟨_, rfl⟩
    have HP0 : Hid (P 0 = none) := Lib.hid (by rw [hP]; show lowT (wetS s.sd 0) f (some false) = none; rw [wet_zero hs]; exact hl0)
    have HWT : Hid (∀ (m : Nat) W, newer w W → m ≤ 100000 → Calls Try.prog 71 #[smV s, vi m] W fun e w' => ∃ s2 : Sm, e = .returned (smV s2) ∧ (∀ W2, newer w' W2 → Calls Try.prog 66 #[lkV s2 f (some false)] W2 fun e w3 => lowOut (P m) W2 e w3 ∧ newer W2 w3) ∧ newer W w') := Lib.hid (by
      intro m W h1 h2
      refine (wetter_any s m W (HOK.out.next h1) hs (by omega) (by omega)).mono ?_
      rintro e w' ⟨s2, h3, h4, h5, h6⟩
      refine ⟨s2, h3, fun W2 h7 => ?_, h6⟩
      rw [hP]
      have h8 := lower_any s2 f (some false) W2 (h5.next h7) (by rw [h4]; exact wet_ok (by omega) hs) f0 (by omega)
      rw [h4] at h8
      exact h8)
    have HMO : Hid (∀ m : Nat, m ≤ 100000 → P m = none → (m < 100000 → (P (m + 1)).isSome = true) → m = marginS s.sd f) := Lib.hid (by
      intro m h1 h2 h3
      rw [hP] at h2 h3
      exact margin_of hs f0 (by omega) h1 h2 h3)
    clear hP HZ hl0
    go_enter Try.func31, Try.ntmps31
    go_wp2_with fail
    refine (HA.out).mono ?_
    rintro e w1 ⟨rfl, hb⟩
    have H1 := Lib.hid (And.intro (newer_trans H0.out.1 hb) (H0.out.2.below hb H0.out.2.lt))
    clear H0 hb HA x0 x1
    go_wp2_with fail
    go_loopw [7, 8] (fun s7 s8 wr => ∃ lo hi : Nat, s7 = vi lo ∧ s8 = vi hi ∧ lo ≤ hi ∧ hi ≤ 100000 ∧ newer w wr ∧ Whole wr w.heap.size 37 (smC s) ∧ P lo = none ∧ (hi < 100000 → (P (hi + 1)).isSome = true)) (fun s7 s8 _ => (intOf s8).toNat - (intOf s7).toNat)
    case atStart => exact ⟨0, 100000, rfl, rfl, Nat.zero_le _, Nat.le_refl _, H1.out.1, H1.out.2, HP0.out, fun h => by omega⟩
    case round =>
      obtain ⟨lo, hi, rfl, rfl, b2, b3, q1, q2, q4, q5⟩ := hrel
      have x0 := q2.at 0 (v := .slice s.a s.cs.length s.c) rfl
      have x1 := q2.at 1 (v := vi s.least) rfl
      have H2 := Lib.hid (And.intro q1 q2)
      have HQ := Lib.hid (And.intro q4 q5)
      clear q1 q2 q4 q5 H1
      by_cases hlt : lo < hi
      · obtain ⟨n, hn⟩ : ∃ n, n = (lo + hi + 1) / 2 := ⟨_, rfl⟩
        have hnb : lo < n ∧ n ≤ hi := by omega
        have hni : ((lo : Int) + hi + 1) / 2 = n := by omega
        clear hn
        go_wp2_with fail
        refine (HWT.out n _ H2.out.1 (by omega)).mono ?_
        rintro e w3 ⟨s2, rfl, hlw, hb3⟩
        have HLW := Lib.hid hlw
        have H3 := Lib.hid (And.intro (newer_trans H2.out.1 hb3) (H2.out.2.below hb3 H2.out.2.lt))
        clear H2 hb3 x0 x1 hlw
        go_wp2_with fail
        refine (below_any s2 f _).mono ?_
        rintro e w4 ⟨rfl, hb4⟩
        have H4 := Lib.hid (And.intro (newer_trans H3.out.1 hb4) (H3.out.2.below hb4 H3.out.2.lt))
        have HLW2 := Lib.hid (HLW.out w4 hb4)
        clear H3 hb4 HLW
        go_wp2_with fail
        refine (HLW2.out).mono ?_
        rintro e w5 ⟨hout, hb5⟩
        have H5 := Lib.hid (And.intro (newer_trans H4.out.1 hb5) (H4.out.2.below hb5 H4.out.2.lt))
        clear H4 hb5 HLW2
        cases hpn : P n with
        | none =>
          rw [hpn] at hout
          have hout2 : e = .returned (.tuple #[.agg #[vi 0, .slice none 0 0], .bool false]) := hout
          subst hout2
          have HPN := Lib.hid hpn
          clear hpn hout
          have e1 := newer_allocH w5 (.cells #[vi 0, .slice none 0 0] 39)
          have H6 := Lib.hid (And.intro (newer_trans H5.out.1 e1) (H5.out.2.below e1 H5.out.2.lt))
          clear e1
          go_wp2_with fail
          refine ⟨⟨n, hi, rfl, rfl, hnb.2, b3, H6.out.1, H6.out.2, HPN.out, HQ.out.2⟩, ?_⟩
          simp [intOf]
          omega
        | some u =>
          obtain ⟨k, l⟩ := u
          rw [hpn] at hout
          have hout2 : ∃ A c, e = .returned (.tuple #[.agg #[vi k, .slice A l.length c], .bool true]) ∧ w5.ownsRow w4.heap.size 3 1 (.slice A l.length c) l.length (l.map fun x : Nat => vi x) := hout
          obtain ⟨A, c, rfl, _⟩ := hout2
          have HPN := Lib.hid hpn
          clear hpn hout
          have e1 := newer_allocH w5 (.cells #[vi k, .slice A l.length c] 39)
          have H6 := Lib.hid (And.intro (newer_trans H5.out.1 e1) (H5.out.2.below e1 H5.out.2.lt))
          clear e1
          go_wp2_with fail
          refine ⟨⟨lo, n - 1, rfl, by rw [show (n : Int) - 1 = ((n - 1 : Nat) : Int) by omega], by omega, by omega, H6.out.1, H6.out.2, HQ.out.1, fun _ => by rw [show n - 1 + 1 = n by omega, HPN.out]; rfl⟩, ?_⟩
          simp [intOf]
          omega
      · obtain rfl : hi = lo := by omega
        obtain rfl : hi = mg := (HMO.out hi b3 HQ.out.1 HQ.out.2).trans HMG.out.symm
        go_wp2_with fail
        exact bodyPost_ret (v := .tuple #[vi hi, vi 0]) (by simp [results, Try.results31, go_sem]) rfl ⟨rfl, H2.out.1⟩
  · rw [if_neg hz]
    have hz2 : (a == 0) = false := by rw [beq_eq_false_iff_ne]; exact hz
    have hz3 : (a != 0) = true := by simp [hz]
    clear HZ
    go_enter Try.func31, Try.ntmps31
    go_wp2_with fail
    refine (HA.out).mono ?_
    rintro e w1 ⟨rfl, hb⟩
    have HE := Lib.hid (newer_trans H0.out.1 hb)
    clear H0 hb HA x0 x1
    go_wp2_with fail
    exact bodyPost_ret (v := .tuple #[vi 0, vi a]) (by simp [results, Try.results31, go_sem]) rfl ⟨rfl, HE.out⟩

end Go.Proofs.Ytkenokpobbichaa
