/- The columns that surely move, and those that may. -/
import Derived.Test.YtkenokpobbichaaR
namespace Go.Proofs.Ytkenokpobbichaa
open Go.RowKit Go.Shelf Go.Deep

/-- A list of numbers in a row of its own. -/
def vMv (B : Nat) (l : List Nat) (v : Value) (W : World) : Prop := ∃ A c, v = .slice A l.length c ∧ W.ownsRow B 3 1 (.slice A l.length c) l.length (l.map fun x : Nat => vi x)
theorem vMv_st {B : Nat} {l : List Nat} : ∀ v W W', vMv B l v W → newer W W' → vMv B l v W' := fun _ _ _ ⟨A, c, h1, h2⟩ hb => ⟨A, c, h1, own_below h2 hb⟩
def movesOut (s : Sd) (f : Int) (w : World) (e : Ending) (w' : World) : Prop := match decide (askedN s f = 0) with
  | false => e = .returned (.tuple #[.slice none 0 0, .slice none 0 0, vi (askedN s f)])
  | true => ∃ A c B d, e = .returned (.tuple #[.slice A (movesL s f (some true)).length c, .slice B (movesL s f (some false)).length d, vi 0]) ∧ w'.ownsRow w.heap.size 3 1 (.slice A (movesL s f (some true)).length c) (movesL s f (some true)).length ((movesL s f (some true)).map fun x : Nat => vi x) ∧ w'.ownsRow w.heap.size 3 1 (.slice B (movesL s f (some false)).length d) (movesL s f (some false)).length ((movesL s f (some false)).map fun x : Nat => vi x)
set_option maxRecDepth 100000 in
set_option maxHeartbeats 1000000 in
theorem moves35_any (s : Sm) (f : Int) (w : World) (hok : SmOk s w) (few : SmFew s) : Calls Try.prog 35 #[smV s, vi f] w fun e w' => movesOut s.sd f w e w' ∧ newer w w' := by
  have hnw : newer w (w.alloc (.cells (smC s) 37)) := newer_allocH _ _
  have hxb := Whole.made w 37 (smC s)
  have HA := Lib.hid (show Calls Try.prog 72 #[smV s, vi f] (w.alloc (.cells (smC s) 37)) fun e w' => e = .returned (vi (askedN s.sd f)) ∧ newer (w.alloc (.cells (smC s) 37)) w' from asked_any s f _ (hok.next hnw) few)
  have x0 := hxb.at 0 (v := .slice s.a s.cs.length s.c) rfl
  have x1 := hxb.at 1 (v := vi s.least) rfl
  have H0 := Lib.hid (And.intro hnw hxb)
  have HOK := Lib.hid hok
  clear hok hnw hxb few
  unfold movesOut
  have HZ : Hid (askedN s.sd f = 0 → SdOk s.sd ∧ 0 ≤ f ∧ f ≤ 10000) := Lib.hid asked_zero
  obtain ⟨a, ha⟩ : ∃ a, a = askedN s.sd f := ⟨_, rfl⟩
  rw [← ha] at HA HZ ⊢
  clear ha
  by_cases hz : a = 0
  · subst hz
    obtain ⟨hs, f0, f1⟩ := HZ.out rfl
    rw [decide_eq_true rfl]
    dsimp only
    have HC1 : Hid (∀ W, newer w W → Calls Try.prog 73 #[lkV s f (some true)] W fun e w' => ∃ A c, e = .returned (.slice A (movesL s.sd f (some true)).length c) ∧ w'.ownsRow W.heap.size 3 1 (.slice A (movesL s.sd f (some true)).length c) (movesL s.sd f (some true)).length ((movesL s.sd f (some true)).map fun x : Nat => vi x) ∧ newer W w') := Lib.hid (fun W h => moves_any s f (some true) W (HOK.out.next h) hs f0 (by omega))
    have HC2 : Hid (∀ W, newer w W → Calls Try.prog 73 #[lkV s f (some false)] W fun e w' => ∃ A c, e = .returned (.slice A (movesL s.sd f (some false)).length c) ∧ w'.ownsRow W.heap.size 3 1 (.slice A (movesL s.sd f (some false)).length c) (movesL s.sd f (some false)).length ((movesL s.sd f (some false)).map fun x : Nat => vi x) ∧ newer W w') := Lib.hid (fun W h => moves_any s f (some false) W (HOK.out.next h) hs f0 (by omega))
    obtain ⟨la, hla⟩ : ∃ la, la = movesL s.sd f (some true) := ⟨_, rfl⟩
    obtain ⟨lb, hlb⟩ : ∃ lb, lb = movesL s.sd f (some false) := ⟨_, rfl⟩
    rw [← hla] at HC1 ⊢
    rw [← hlb] at HC2 ⊢
    clear hla hlb HZ hs
    go_enter Try.func35, Try.ntmps35
    go_wp2_with fail
    refine (HA.out).mono ?_
    rintro e w1 ⟨rfl, hb⟩
    have H1 := Lib.hid (And.intro (newer_trans H0.out.1 hb) (H0.out.2.below hb H0.out.2.lt))
    clear H0 hb HA x0 x1
    have x0 := H1.out.2.at 0 (v := .slice s.a s.cs.length s.c) rfl
    have x1 := H1.out.2.at 1 (v := vi s.least) rfl
    have HC1 := Lib.hid (fun W (h : newer w1 W) => HC1.out W (newer_trans H1.out.1 h))
    have HC2 := Lib.hid (fun W (h : newer w1 W) => HC2.out W (newer_trans H1.out.1 h))
    go_upto_region 4 with fail
    refine wp_words (by kernel_rfl) (region_told 8 (by kernel_rfl) (by kernel_rfl) (fun W => Below w1.heap.size w1 W) newer (pickD [vIs (smV s), vIs (vi f), vIs (lkV s f (some true)), vMv w1.heap.size la, vIs (smV s), vIs (vi f), vIs (lkV s f (some false)), vMv w1.heap.size lb]) (fun h k => newer_trans h k) (pickD_stable _ ⟨vIs_st, vIs_st, vIs_st, vMv_st, vIs_st, vIs_st, vIs_st, vMv_st, trivial⟩) (Below.refl _ w1).drew (Below.refl _ _) ?_ ?_)
    · refine ⟨?_, ?_, ?_, ?_, ?_, ?_, ?_, ?_, trivial⟩
      · intro a W hG hR hO hp
        have h2 := hO.slot 2 (by kernel_rfl)
        have c0 := keep_cell x0 hG
        have c1 := keep_cell x1 hG
        refine wp_yields (v := smV s) ?_ ⟨_, rfl, rfl, Below.refl _ _, hG⟩
        simp [slotOf] at h2
        simp [execOp, go_sem, h2, c0, c1]
      · intro a W hG hR hO hp
        have h1 := hO.slot 1 (by kernel_rfl)
        refine wp_yields (v := vi f) ?_ ⟨_, rfl, rfl, Below.refl _ _, hG⟩
        simp [slotOf] at h1
        simp [execOp, go_sem, h1]
      · intro a W hG hR hO hp
        have h14 : slotOf a 14 = smV s := hp.1
        have h15 : slotOf a 15 = vi f := hp.2.1
        refine wp_yields (v := lkV s f (some true)) ?_ ⟨_, rfl, rfl, Below.refl _ _, hG⟩
        simp [slotOf] at h14 h15
        simp [execOp, go_sem, h14, h15, trF]
      · intro a W hG hR hO hp
        have h16 : slotOf a 16 = lkV s f (some true) := hp.1
        refine wp_enters (f := 73) (args := #[lkV s f (some true)]) ?_ ((HC1.out W hG).mono ?_)
        · simp [slotOf] at h16
          simp [go_sem, h16]
        · rintro e w' ⟨A, c, rfl, h1, hb⟩
          exact ⟨_, rfl, _, rfl, ⟨A, c, rfl, own_more h1 hG.size⟩, hb, below_next hG hb⟩
      · intro a W hG hR hO hp
        have h2 := hO.slot 2 (by kernel_rfl)
        have c0 := keep_cell x0 hG
        have c1 := keep_cell x1 hG
        refine wp_yields (v := smV s) ?_ ⟨_, rfl, rfl, Below.refl _ _, hG⟩
        simp [slotOf] at h2
        simp [execOp, go_sem, h2, c0, c1]
      · intro a W hG hR hO hp
        have h1 := hO.slot 1 (by kernel_rfl)
        refine wp_yields (v := vi f) ?_ ⟨_, rfl, rfl, Below.refl _ _, hG⟩
        simp [slotOf] at h1
        simp [execOp, go_sem, h1]
      · intro a W hG hR hO hp
        have h18 : slotOf a 18 = smV s := hp.1
        have h19 : slotOf a 19 = vi f := hp.2.1
        refine wp_enters (f := 65) (args := #[smV s, vi f]) ?_ ((below_any s f W).mono ?_)
        · simp [slotOf] at h18 h19
          simp [go_sem, h18, h19]
        · rintro e w' ⟨rfl, hb⟩
          exact ⟨_, rfl, _, rfl, rfl, hb, below_next hG hb⟩
      · intro a W hG hR hO hp
        have h20 : slotOf a 20 = lkV s f (some false) := hp.1
        refine wp_enters (f := 73) (args := #[lkV s f (some false)]) ?_ ((HC2.out W hG).mono ?_)
        · simp [slotOf] at h20
          simp [go_sem, h20]
        · rintro e w' ⟨A, c, rfl, h1, hb⟩
          exact ⟨_, rfl, _, rfl, ⟨A, c, rfl, own_more h1 hG.size⟩, hb, below_next hG hb⟩
    · intro W hG hR
      rintro _ rfl _ rfl _ rfl _ ⟨A1, cp1, rfl, hr1⟩ _ rfl _ rfl _ rfl _ ⟨A2, cp2, rfl, hr2⟩
      change wpList _ _ _ _ _ _
      simp only [Act.put, List.setIfInBounds_toArray, List.set_cons_zero, List.set_cons_succ, List.drop_succ_cons, List.drop_zero]
      have HE := Lib.hid (And.intro (own_more hr1 H1.out.1.size) (And.intro (own_more hr2 H1.out.1.size) (newer_trans H1.out.1 hG)))
      clear hr1 hr2 hG hR
      go_wp2_with fail
      exact bodyPost_ret (v := .tuple #[.slice A1 la.length cp1, .slice A2 lb.length cp2, vi 0]) (by simp [results, Try.results35, go_sem]) rfl ⟨⟨_, _, _, _, rfl, HE.out.1, HE.out.2.1⟩, HE.out.2.2⟩
  · rw [decide_eq_false hz]
    have hz2 : (a == 0) = false := by rw [beq_eq_false_iff_ne]; exact hz
    have hz3 : (a != 0) = true := by simp [hz]
    clear HZ
    go_enter Try.func35, Try.ntmps35
    go_wp2_with fail
    refine (HA.out).mono ?_
    rintro e w1 ⟨rfl, hb⟩
    have HE := Lib.hid (newer_trans H0.out.1 hb)
    clear H0 hb HA x0 x1
    go_wp2_with fail
    exact bodyPost_ret (v := .tuple #[.slice none 0 0, .slice none 0 0, vi a]) (by simp [results, Try.results35, go_sem]) rfl ⟨rfl, HE.out⟩

end Go.Proofs.Ytkenokpobbichaa
