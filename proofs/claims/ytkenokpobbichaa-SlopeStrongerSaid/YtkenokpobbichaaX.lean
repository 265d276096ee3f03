/- The slope of the document's examples. -/
import Derived.Test.YtkenokpobbichaaW
namespace Go.Proofs.Ytkenokpobbichaa
open Go.RowKit Go.Shelf Go.Deep

def valC (i : Nat) : List Bd := match i with
  | 0 => [⟨400, 900, ⟨300, 400⟩, ⟨50, 60⟩, ⟨100, 200⟩⟩, ⟨600, 1500, ⟨400, 500⟩, ⟨20, 40⟩, ⟨300, 500⟩⟩]
  | 1 => [⟨300, 1000, ⟨300, 400⟩, ⟨50, 60⟩, ⟨0, 200⟩⟩, ⟨500, 1600, ⟨400, 500⟩, ⟨20, 40⟩, ⟨200, 600⟩⟩]
  | _ => [⟨(-100), 1200, ⟨300, 400⟩, ⟨50, 60⟩, ⟨0, 100⟩⟩, ⟨100, 1800, ⟨400, 500⟩, ⟨20, 40⟩, ⟨0, 400⟩⟩]
def valleyD : Sd := ⟨[valC 0, valC 1, valC 2], 2⟩
def valX (i : Nat) : Array Value := match i with
  | 0 => #[vi 400, vi 900, vi 300, vi 400, vi 50, vi 60, vi 100, vi 200, vi 600, vi 1500, vi 400, vi 500, vi 20, vi 40, vi 300, vi 500]
  | 1 => #[vi 300, vi 1000, vi 300, vi 400, vi 50, vi 60, vi 0, vi 200, vi 500, vi 1600, vi 400, vi 500, vi 20, vi 40, vi 200, vi 600]
  | _ => #[vi (-100), vi 1200, vi 300, vi 400, vi 50, vi 60, vi 0, vi 100, vi 100, vi 1800, vi 400, vi 500, vi 20, vi 40, vi 0, vi 400]
/-- The example's slope, in memory from a block on. -/
structure VM (B q c0 c1 c2 : Nat) (W : World) : Prop where
  mq : Whole W q 105 #[.slice (some ⟨c0, 0, none⟩) 2 2, .slice (some ⟨c1, 0, none⟩) 2 2, .slice (some ⟨c2, 0, none⟩) 2 2]
  m0 : Whole W c0 104 (valX 0)
  m1 : Whole W c1 104 (valX 1)
  m2 : Whole W c2 104 (valX 2)
  ge : B ≤ q ∧ B ≤ c0 ∧ B ≤ c1 ∧ B ≤ c2
theorem VM.next {B q c0 c1 c2 : Nat} {W W' : World} (h : VM B q c0 c1 c2 W) (hb : newer W W') : VM B q c0 c1 c2 W' := ⟨h.mq.below hb h.mq.lt, h.m0.below hb h.m0.lt, h.m1.below hb h.m1.lt, h.m2.below hb h.m2.lt, h.ge⟩
abbrev valM (q c0 c1 c2 : Nat) : Sm := ⟨[⟨valC 0, some ⟨c0, 0, none⟩, 2⟩, ⟨valC 1, some ⟨c1, 0, none⟩, 2⟩, ⟨valC 2, some ⟨c2, 0, none⟩, 2⟩], some ⟨q, 0, none⟩, 3, 2⟩
theorem VM.ok {B q c0 c1 c2 : Nat} {W : World} (h : VM B q c0 c1 c2 W) : SmOk (valM q c0 c1 c2) W := by
  refine ⟨row_of_whole (enc := clL) (s := 1) (fun _ => rfl) h.mq rfl, fun x hx => ?_⟩
  simp only [List.mem_cons, List.not_mem_nil, or_false] at hx
  rcases hx with rfl | rfl | rfl
  · exact row_of_whole (enc := bdL) (s := 8) (fun _ => rfl) h.m0 rfl
  · exact row_of_whole (enc := bdL) (s := 8) (fun _ => rfl) h.m1 rfl
  · exact row_of_whole (enc := bdL) (s := 8) (fun _ => rfl) h.m2 rfl
theorem VM.sd (q c0 c1 c2 : Nat) : (valM q c0 c1 c2).sd = valleyD := rfl
theorem valM_few (q c0 c1 c2 : Nat) : SmFew (valM q c0 c1 c2) := ⟨by simp, fun x hx => by
  simp only [List.mem_cons, List.not_mem_nil, or_false] at hx
  rcases hx with rfl | rfl | rfl <;> simp [valC]⟩
/-- A column, its cells in a row made since. -/
def vCol (B i : Nat) (v : Value) (W : World) : Prop := ∃ g, v = .slice (some ⟨g, 0, none⟩) 2 2 ∧ B ≤ g ∧ Whole W g 104 (valX i)
theorem vCol_st {B i : Nat} : ∀ v W W', vCol B i v W → newer W W' → vCol B i v W' := fun _ _ _ ⟨g, h1, h2, h3⟩ hb => ⟨g, h1, h2, h3.below hb h3.lt⟩
def vCols (B : Nat) (v : Value) (W : World) : Prop := ∃ q c0 c1 c2, v = .slice (some ⟨q, 0, none⟩) 3 3 ∧ VM B q c0 c1 c2 W
theorem vCols_st {B : Nat} : ∀ v W W', vCols B v W → newer W W' → vCols B v W' := fun _ _ _ ⟨q, c0, c1, c2, h1, h2⟩ hb => ⟨q, c0, c1, c2, h1, h2.next hb⟩
def vVal (B : Nat) (v : Value) (W : World) : Prop := ∃ q c0 c1 c2, v = .agg #[.slice (some ⟨q, 0, none⟩) 3 3, vi 2] ∧ VM B q c0 c1 c2 W
theorem vVal_st {B : Nat} : ∀ v W W', vVal B v W → newer W W' → vVal B v W' := fun _ _ _ ⟨q, c0, c1, c2, h1, h2⟩ hb => ⟨q, c0, c1, c2, h1, h2.next hb⟩
set_option maxRecDepth 100000 in
set_option maxHeartbeats 2000000 in
theorem valley_any (w : World) : Calls Try.prog 54 #[] w fun e w' => ∃ q c0 c1 c2, e = .returned (smV (valM q c0 c1 c2)) ∧ VM w.heap.size q c0 c1 c2 w' ∧ newer w w' := by
  have H0 := Lib.hid (And.intro (newer_allocH w (.cells #[.slice none 0 0, vi 0] 37)) (Whole.made w 37 #[.slice none 0 0, vi 0]))
  go_enter Try.func54, Try.ntmps54
  go_wp2_with fail
  refine (span56_any 300 400 _).mono ?_
  rintro e w1 ⟨rfl, hb⟩
  have H1 := Lib.hid (And.intro (newer_trans H0.out.1 hb) (H0.out.2.below hb H0.out.2.lt))
  clear H0 hb
  go_wp2_with fail
  refine (span56_any 400 500 _).mono ?_
  rintro e w2 ⟨rfl, hb⟩
  have H2 := Lib.hid (And.intro (newer_trans H1.out.1 hb) (H1.out.2.below hb H1.out.2.lt))
  clear H1 hb
  go_wp2_with fail
  refine (span56_any 50 60 _).mono ?_
  rintro e w3 ⟨rfl, hb⟩
  have H3 := Lib.hid (And.intro (newer_trans H2.out.1 hb) (H2.out.2.below hb H2.out.2.lt))
  clear H2 hb
  go_wp2_with fail
  refine (span56_any 20 40 _).mono ?_
  rintro e w4 ⟨rfl, hb⟩
  have H4 := Lib.hid (And.intro (newer_trans H3.out.1 hb) (H3.out.2.below hb H3.out.2.lt))
  clear H3 hb
  have H9 : Hid (newer w ((((w4.alloc (.cells #[vi 300, vi 400] 31)).alloc (.cells #[vi 400, vi 500] 31)).alloc (.cells #[vi 50, vi 60] 31)).alloc (.cells #[vi 20, vi 40] 31)) ∧ Whole ((((w4.alloc (.cells #[vi 300, vi 400] 31)).alloc (.cells #[vi 400, vi 500] 31)).alloc (.cells #[vi 50, vi 60] 31)).alloc (.cells #[vi 20, vi 40] 31)) w.heap.size 37 #[.slice none 0 0, vi 0] ∧ Whole ((((w4.alloc (.cells #[vi 300, vi 400] 31)).alloc (.cells #[vi 400, vi 500] 31)).alloc (.cells #[vi 50, vi 60] 31)).alloc (.cells #[vi 20, vi 40] 31)) w4.heap.size 31 #[vi 300, vi 400] ∧ Whole ((((w4.alloc (.cells #[vi 300, vi 400] 31)).alloc (.cells #[vi 400, vi 500] 31)).alloc (.cells #[vi 50, vi 60] 31)).alloc (.cells #[vi 20, vi 40] 31)) (w4.heap.size + 1) 31 #[vi 400, vi 500] ∧ Whole ((((w4.alloc (.cells #[vi 300, vi 400] 31)).alloc (.cells #[vi 400, vi 500] 31)).alloc (.cells #[vi 50, vi 60] 31)).alloc (.cells #[vi 20, vi 40] 31)) (w4.heap.size + 1 + 1) 31 #[vi 50, vi 60] ∧ Whole ((((w4.alloc (.cells #[vi 300, vi 400] 31)).alloc (.cells #[vi 400, vi 500] 31)).alloc (.cells #[vi 50, vi 60] 31)).alloc (.cells #[vi 20, vi 40] 31)) (w4.heap.size + 1 + 1 + 1) 31 #[vi 20, vi 40]) := Lib.hid (by
    have m0 := (((Whole.made w4 31 #[vi 300, vi 400]).alloc (.cells #[vi 400, vi 500] 31)).alloc (.cells #[vi 50, vi 60] 31)).alloc (.cells #[vi 20, vi 40] 31)
    have m1 := ((Whole.made (w4.alloc (.cells #[vi 300, vi 400] 31)) 31 #[vi 400, vi 500]).alloc (.cells #[vi 50, vi 60] 31)).alloc (.cells #[vi 20, vi 40] 31)
    have m2 := (Whole.made ((w4.alloc (.cells #[vi 300, vi 400] 31)).alloc (.cells #[vi 400, vi 500] 31)) 31 #[vi 50, vi 60]).alloc (.cells #[vi 20, vi 40] 31)
    have m3 := Whole.made (((w4.alloc (.cells #[vi 300, vi 400] 31)).alloc (.cells #[vi 400, vi 500] 31)).alloc (.cells #[vi 50, vi 60] 31)) 31 #[vi 20, vi 40]
    simp only [World.size_alloc] at m1 m2 m3
    have e := newer_trans (newer_trans (newer_trans (newer_allocH w4 (.cells #[vi 300, vi 400] 31)) (newer_allocH _ (.cells #[vi 400, vi 500] 31))) (newer_allocH _ (.cells #[vi 50, vi 60] 31))) (newer_allocH _ (.cells #[vi 20, vi 40] 31))
    exact ⟨newer_trans H4.out.1 e, H4.out.2.below e H4.out.2.lt, m0, m1, m2, m3⟩)
  clear H4
  go_upto_region 2 with fail
  refine genQ (fun X => newer w X ∧ Whole X w.heap.size 37 #[.slice none 0 0, vi 0] ∧ Whole X w4.heap.size 31 #[vi 300, vi 400] ∧ Whole X (w4.heap.size + 1) 31 #[vi 400, vi 500] ∧ Whole X (w4.heap.size + 1 + 1) 31 #[vi 50, vi 60] ∧ Whole X (w4.heap.size + 1 + 1 + 1) 31 #[vi 20, vi 40]) H9.out ?_
  clear H9
  rintro w9 ⟨a1, a2, a3, a4, a5, a6⟩
  have s0 := a3.at 0 (v := vi 300) rfl
  have s1 := a3.at 1 (v := vi 400) rfl
  have f0 := a4.at 0 (v := vi 400) rfl
  have f1 := a4.at 1 (v := vi 500) rfl
  have n0 := a5.at 0 (v := vi 50) rfl
  have n1 := a5.at 1 (v := vi 60) rfl
  have k0 := a6.at 0 (v := vi 20) rfl
  have k1 := a6.at 1 (v := vi 40) rfl
  have H9 := Lib.hid (And.intro a1 a2)
  clear a1 a2 a3 a4 a5 a6
  refine wp_words (by kernel_rfl) (region_told 29 (by kernel_rfl) (by kernel_rfl) (fun W => Below w9.heap.size w9 W) newer (pickD [vIs (rgV ⟨300, 400⟩), vIs (rgV ⟨50, 60⟩), vIs (rgV ⟨100, 200⟩), vIs (bdV ⟨400, 900, ⟨300, 400⟩, ⟨50, 60⟩, ⟨100, 200⟩⟩), vIs (rgV ⟨400, 500⟩), vIs (rgV ⟨20, 40⟩), vIs (rgV ⟨300, 500⟩), vIs (bdV ⟨600, 1500, ⟨400, 500⟩, ⟨20, 40⟩, ⟨300, 500⟩⟩), vCol w9.heap.size 0, vIs (rgV ⟨300, 400⟩), vIs (rgV ⟨50, 60⟩), vIs (rgV ⟨0, 200⟩), vIs (bdV ⟨300, 1000, ⟨300, 400⟩, ⟨50, 60⟩, ⟨0, 200⟩⟩), vIs (rgV ⟨400, 500⟩), vIs (rgV ⟨20, 40⟩), vIs (rgV ⟨200, 600⟩), vIs (bdV ⟨500, 1600, ⟨400, 500⟩, ⟨20, 40⟩, ⟨200, 600⟩⟩), vCol w9.heap.size 1, vIs (rgV ⟨300, 400⟩), vIs (rgV ⟨50, 60⟩), vIs (rgV ⟨0, 100⟩), vIs (bdV ⟨(-100), 1200, ⟨300, 400⟩, ⟨50, 60⟩, ⟨0, 100⟩⟩), vIs (rgV ⟨400, 500⟩), vIs (rgV ⟨20, 40⟩), vIs (rgV ⟨0, 400⟩), vIs (bdV ⟨100, 1800, ⟨400, 500⟩, ⟨20, 40⟩, ⟨0, 400⟩⟩), vCol w9.heap.size 2, vCols w9.heap.size, vVal w9.heap.size]) (fun h k => newer_trans h k) (pickD_stable _ ⟨vIs_st, vIs_st, vIs_st, vIs_st, vIs_st, vIs_st, vIs_st, vIs_st, vCol_st, vIs_st, vIs_st, vIs_st, vIs_st, vIs_st, vIs_st, vIs_st, vIs_st, vCol_st, vIs_st, vIs_st, vIs_st, vIs_st, vIs_st, vIs_st, vIs_st, vIs_st, vCol_st, vCols_st, vVal_st, trivial⟩) (Below.refl _ w9).drew (Below.refl _ _) ?_ ?_)
  · refine ⟨?_, ?_, ?_, ?_, ?_, ?_, ?_, ?_, ?_, ?_, ?_, ?_, ?_, ?_, ?_, ?_, ?_, ?_, ?_, ?_, ?_, ?_, ?_, ?_, ?_, ?_, ?_, ?_, ?_, trivial⟩
    · intro a W hG hR hO hp
      have h1 := hO.slot 1 (by kernel_rfl)
      have c0 := keep_cell s0 hG
      have c1 := keep_cell s1 hG
      refine wp_yields (v := rgV ⟨300, 400⟩) ?_ ⟨_, rfl, rfl, Below.refl _ _, hG⟩
      simp [slotOf] at h1
      simp [execOp, go_sem, h1, c0, c1]
    · intro a W hG hR hO hp
      have h3 := hO.slot 3 (by kernel_rfl)
      have c0 := keep_cell n0 hG
      have c1 := keep_cell n1 hG
      refine wp_yields (v := rgV ⟨50, 60⟩) ?_ ⟨_, rfl, rfl, Below.refl _ _, hG⟩
      simp [slotOf] at h3
      simp [execOp, go_sem, h3, c0, c1]
    · intro a W hG hR hO hp
      refine wp_enters (f := 56) (args := #[vi 100, vi 200]) ?_ ((span56_any 100 200 W).mono ?_)
      · skip
        simp [go_sem]
      · rintro e w' ⟨rfl, hb⟩
        exact ⟨_, rfl, _, rfl, rfl, hb, below_next hG hb⟩
    · intro a W hG hR hO hp
      have h9 : slotOf a 9 = rgV ⟨300, 400⟩ := hp.1
      have h10 : slotOf a 10 = rgV ⟨50, 60⟩ := hp.2.1
      have h11 : slotOf a 11 = rgV ⟨100, 200⟩ := hp.2.2.1
      refine wp_enters (f := 87) (args := #[vi 400, vi 900, rgV ⟨300, 400⟩, rgV ⟨50, 60⟩, rgV ⟨100, 200⟩]) ?_ ((bed87_any 400 900 ⟨300, 400⟩ ⟨50, 60⟩ ⟨100, 200⟩ W).mono ?_)
      · simp [slotOf] at h9 h10 h11
        simp [go_sem, h9, h10, h11]
      · rintro e w' ⟨rfl, hb⟩
        exact ⟨_, rfl, _, rfl, rfl, hb, below_next hG hb⟩
    · intro a W hG hR hO hp
      have h2 := hO.slot 2 (by kernel_rfl)
      have c0 := keep_cell f0 hG
      have c1 := keep_cell f1 hG
      refine wp_yields (v := rgV ⟨400, 500⟩) ?_ ⟨_, rfl, rfl, Below.refl _ _, hG⟩
      simp [slotOf] at h2
      simp [execOp, go_sem, h2, c0, c1]
    · intro a W hG hR hO hp
      have h4 := hO.slot 4 (by kernel_rfl)
      have c0 := keep_cell k0 hG
      have c1 := keep_cell k1 hG
      refine wp_yields (v := rgV ⟨20, 40⟩) ?_ ⟨_, rfl, rfl, Below.refl _ _, hG⟩
      simp [slotOf] at h4
      simp [execOp, go_sem, h4, c0, c1]
    · intro a W hG hR hO hp
      refine wp_enters (f := 56) (args := #[vi 300, vi 500]) ?_ ((span56_any 300 500 W).mono ?_)
      · skip
        simp [go_sem]
      · rintro e w' ⟨rfl, hb⟩
        exact ⟨_, rfl, _, rfl, rfl, hb, below_next hG hb⟩
    · intro a W hG hR hO hp
      have h13 : slotOf a 13 = rgV ⟨400, 500⟩ := hp.1
      have h14 : slotOf a 14 = rgV ⟨20, 40⟩ := hp.2.1
      have h15 : slotOf a 15 = rgV ⟨300, 500⟩ := hp.2.2.1
      refine wp_enters (f := 87) (args := #[vi 600, vi 1500, rgV ⟨400, 500⟩, rgV ⟨20, 40⟩, rgV ⟨300, 500⟩]) ?_ ((bed87_any 600 1500 ⟨400, 500⟩ ⟨20, 40⟩ ⟨300, 500⟩ W).mono ?_)
      · simp [slotOf] at h13 h14 h15
        simp [go_sem, h13, h14, h15]
      · rintro e w' ⟨rfl, hb⟩
        exact ⟨_, rfl, _, rfl, rfl, hb, below_next hG hb⟩
    · intro a W hG hR hO hp
      have h12 : slotOf a 12 = bdV ⟨400, 900, ⟨300, 400⟩, ⟨50, 60⟩, ⟨100, 200⟩⟩ := hp.1
      have h16 : slotOf a 16 = bdV ⟨600, 1500, ⟨400, 500⟩, ⟨20, 40⟩, ⟨300, 500⟩⟩ := hp.2.1
      refine wp_makes (v := .slice (some ⟨W.heap.size, 0, none⟩) 2 2) (W' := W.alloc (.cells (valX 0) 104)) ?_ ⟨_, rfl, ⟨_, rfl, hG.size, Whole.made _ _ _⟩, newer_allocH _ _, below_next hG (newer_allocH _ _)⟩
      simp [slotOf] at h12 h16
      simp [execOp, go_sem, h12, h16, valX]
    · intro a W hG hR hO hp
      have h1 := hO.slot 1 (by kernel_rfl)
      have c0 := keep_cell s0 hG
      have c1 := keep_cell s1 hG
      refine wp_yields (v := rgV ⟨300, 400⟩) ?_ ⟨_, rfl, rfl, Below.refl _ _, hG⟩
      simp [slotOf] at h1
      simp [execOp, go_sem, h1, c0, c1]
    · intro a W hG hR hO hp
      have h3 := hO.slot 3 (by kernel_rfl)
      have c0 := keep_cell n0 hG
      have c1 := keep_cell n1 hG
      refine wp_yields (v := rgV ⟨50, 60⟩) ?_ ⟨_, rfl, rfl, Below.refl _ _, hG⟩
      simp [slotOf] at h3
      simp [execOp, go_sem, h3, c0, c1]
    · intro a W hG hR hO hp
      refine wp_enters (f := 56) (args := #[vi 0, vi 200]) ?_ ((span56_any 0 200 W).mono ?_)
      · skip
        simp [go_sem]
      · rintro e w' ⟨rfl, hb⟩
        exact ⟨_, rfl, _, rfl, rfl, hb, below_next hG hb⟩
    · intro a W hG hR hO hp
      have h18 : slotOf a 18 = rgV ⟨300, 400⟩ := hp.1
      have h19 : slotOf a 19 = rgV ⟨50, 60⟩ := hp.2.1
      have h20 : slotOf a 20 = rgV ⟨0, 200⟩ := hp.2.2.1
      refine wp_enters (f := 87) (args := #[vi 300, vi 1000, rgV ⟨300, 400⟩, rgV ⟨50, 60⟩, rgV ⟨0, 200⟩]) ?_ ((bed87_any 300 1000 ⟨300, 400⟩ ⟨50, 60⟩ ⟨0, 200⟩ W).mono ?_)
      · simp [slotOf] at h18 h19 h20
        simp [go_sem, h18, h19, h20]
      · rintro e w' ⟨rfl, hb⟩
        exact ⟨_, rfl, _, rfl, rfl, hb, below_next hG hb⟩
    · intro a W hG hR hO hp
      have h2 := hO.slot 2 (by kernel_rfl)
      have c0 := keep_cell f0 hG
      have c1 := keep_cell f1 hG
      refine wp_yields (v := rgV ⟨400, 500⟩) ?_ ⟨_, rfl, rfl, Below.refl _ _, hG⟩
      simp [slotOf] at h2
      simp [execOp, go_sem, h2, c0, c1]
    · intro a W hG hR hO hp
      have h4 := hO.slot 4 (by kernel_rfl)
      have c0 := keep_cell k0 hG
      have c1 := keep_cell k1 hG
      refine wp_yields (v := rgV ⟨20, 40⟩) ?_ ⟨_, rfl, rfl, Below.refl _ _, hG⟩
      simp [slotOf] at h4
      simp [execOp, go_sem, h4, c0, c1]
    · intro a W hG hR hO hp
      refine wp_enters (f := 56) (args := #[vi 200, vi 600]) ?_ ((span56_any 200 600 W).mono ?_)
      · skip
        simp [go_sem]
      · rintro e w' ⟨rfl, hb⟩
        exact ⟨_, rfl, _, rfl, rfl, hb, below_next hG hb⟩
    · intro a W hG hR hO hp
      have h22 : slotOf a 22 = rgV ⟨400, 500⟩ := hp.1
      have h23 : slotOf a 23 = rgV ⟨20, 40⟩ := hp.2.1
      have h24 : slotOf a 24 = rgV ⟨200, 600⟩ := hp.2.2.1
      refine wp_enters (f := 87) (args := #[vi 500, vi 1600, rgV ⟨400, 500⟩, rgV ⟨20, 40⟩, rgV ⟨200, 600⟩]) ?_ ((bed87_any 500 1600 ⟨400, 500⟩ ⟨20, 40⟩ ⟨200, 600⟩ W).mono ?_)
      · simp [slotOf] at h22 h23 h24
        simp [go_sem, h22, h23, h24]
      · rintro e w' ⟨rfl, hb⟩
        exact ⟨_, rfl, _, rfl, rfl, hb, below_next hG hb⟩
    · intro a W hG hR hO hp
      have h21 : slotOf a 21 = bdV ⟨300, 1000, ⟨300, 400⟩, ⟨50, 60⟩, ⟨0, 200⟩⟩ := hp.1
      have h25 : slotOf a 25 = bdV ⟨500, 1600, ⟨400, 500⟩, ⟨20, 40⟩, ⟨200, 600⟩⟩ := hp.2.1
      refine wp_makes (v := .slice (some ⟨W.heap.size, 0, none⟩) 2 2) (W' := W.alloc (.cells (valX 1) 104)) ?_ ⟨_, rfl, ⟨_, rfl, hG.size, Whole.made _ _ _⟩, newer_allocH _ _, below_next hG (newer_allocH _ _)⟩
      simp [slotOf] at h21 h25
      simp [execOp, go_sem, h21, h25, valX]
    · intro a W hG hR hO hp
      have h1 := hO.slot 1 (by kernel_rfl)
      have c0 := keep_cell s0 hG
      have c1 := keep_cell s1 hG
      refine wp_yields (v := rgV ⟨300, 400⟩) ?_ ⟨_, rfl, rfl, Below.refl _ _, hG⟩
      simp [slotOf] at h1
      simp [execOp, go_sem, h1, c0, c1]
    · intro a W hG hR hO hp
      have h3 := hO.slot 3 (by kernel_rfl)
      have c0 := keep_cell n0 hG
      have c1 := keep_cell n1 hG
      refine wp_yields (v := rgV ⟨50, 60⟩) ?_ ⟨_, rfl, rfl, Below.refl _ _, hG⟩
      simp [slotOf] at h3
      simp [execOp, go_sem, h3, c0, c1]
    · intro a W hG hR hO hp
      refine wp_enters (f := 56) (args := #[vi 0, vi 100]) ?_ ((span56_any 0 100 W).mono ?_)
      · skip
        simp [go_sem]
      · rintro e w' ⟨rfl, hb⟩
        exact ⟨_, rfl, _, rfl, rfl, hb, below_next hG hb⟩
    · intro a W hG hR hO hp
      have h27 : slotOf a 27 = rgV ⟨300, 400⟩ := hp.1
      have h28 : slotOf a 28 = rgV ⟨50, 60⟩ := hp.2.1
      have h29 : slotOf a 29 = rgV ⟨0, 100⟩ := hp.2.2.1
      refine wp_enters (f := 87) (args := #[vi (-100), vi 1200, rgV ⟨300, 400⟩, rgV ⟨50, 60⟩, rgV ⟨0, 100⟩]) ?_ ((bed87_any (-100) 1200 ⟨300, 400⟩ ⟨50, 60⟩ ⟨0, 100⟩ W).mono ?_)
      · simp [slotOf] at h27 h28 h29
        simp [go_sem, h27, h28, h29]
      · rintro e w' ⟨rfl, hb⟩
        exact ⟨_, rfl, _, rfl, rfl, hb, below_next hG hb⟩
    · intro a W hG hR hO hp
      have h2 := hO.slot 2 (by kernel_rfl)
      have c0 := keep_cell f0 hG
      have c1 := keep_cell f1 hG
      refine wp_yields (v := rgV ⟨400, 500⟩) ?_ ⟨_, rfl, rfl, Below.refl _ _, hG⟩
      simp [slotOf] at h2
      simp [execOp, go_sem, h2, c0, c1]
    · intro a W hG hR hO hp
      have h4 := hO.slot 4 (by kernel_rfl)
      have c0 := keep_cell k0 hG
      have c1 := keep_cell k1 hG
      refine wp_yields (v := rgV ⟨20, 40⟩) ?_ ⟨_, rfl, rfl, Below.refl _ _, hG⟩
      simp [slotOf] at h4
      simp [execOp, go_sem, h4, c0, c1]
    · intro a W hG hR hO hp
      refine wp_enters (f := 56) (args := #[vi 0, vi 400]) ?_ ((span56_any 0 400 W).mono ?_)
      · skip
        simp [go_sem]
      · rintro e w' ⟨rfl, hb⟩
        exact ⟨_, rfl, _, rfl, rfl, hb, below_next hG hb⟩
    · intro a W hG hR hO hp
      have h31 : slotOf a 31 = rgV ⟨400, 500⟩ := hp.1
      have h32 : slotOf a 32 = rgV ⟨20, 40⟩ := hp.2.1
      have h33 : slotOf a 33 = rgV ⟨0, 400⟩ := hp.2.2.1
      refine wp_enters (f := 87) (args := #[vi 100, vi 1800, rgV ⟨400, 500⟩, rgV ⟨20, 40⟩, rgV ⟨0, 400⟩]) ?_ ((bed87_any 100 1800 ⟨400, 500⟩ ⟨20, 40⟩ ⟨0, 400⟩ W).mono ?_)
      · simp [slotOf] at h31 h32 h33
        simp [go_sem, h31, h32, h33]
      · rintro e w' ⟨rfl, hb⟩
        exact ⟨_, rfl, _, rfl, rfl, hb, below_next hG hb⟩
    · intro a W hG hR hO hp
      have h30 : slotOf a 30 = bdV ⟨(-100), 1200, ⟨300, 400⟩, ⟨50, 60⟩, ⟨0, 100⟩⟩ := hp.1
      have h34 : slotOf a 34 = bdV ⟨100, 1800, ⟨400, 500⟩, ⟨20, 40⟩, ⟨0, 400⟩⟩ := hp.2.1
      refine wp_makes (v := .slice (some ⟨W.heap.size, 0, none⟩) 2 2) (W' := W.alloc (.cells (valX 2) 104)) ?_ ⟨_, rfl, ⟨_, rfl, hG.size, Whole.made _ _ _⟩, newer_allocH _ _, below_next hG (newer_allocH _ _)⟩
      simp [slotOf] at h30 h34
      simp [execOp, go_sem, h30, h34, valX]
    · intro a W hG hR hO hp
      have h17 := hp.1
      have h26 := hp.2.1
      have h35 := hp.2.2.1
      obtain ⟨g0, h17, ha0, hw0⟩ := h17
      obtain ⟨g1, h26, ha1, hw1⟩ := h26
      obtain ⟨g2, h35, ha2, hw2⟩ := h35
      refine wp_makes (v := .slice (some ⟨W.heap.size, 0, none⟩) 3 3) (W' := W.alloc (.cells #[.slice (some ⟨g0, 0, none⟩) 2 2, .slice (some ⟨g1, 0, none⟩) 2 2, .slice (some ⟨g2, 0, none⟩) 2 2] 105)) ?_ ⟨_, rfl, ⟨_, g0, g1, g2, rfl, Whole.made _ _ _, hw0.alloc _, hw1.alloc _, hw2.alloc _, hG.size, ha0, ha1, ha2⟩, newer_allocH _ _, below_next hG (newer_allocH _ _)⟩
      simp [slotOf] at h17 h26 h35
      simp [execOp, go_sem, h17, h26, h35]
    · intro a W hG hR hO hp
      have h36 := hp.1
      obtain ⟨q, g0, g1, g2, h36, hvm⟩ := h36
      refine wp_yields (v := .agg #[.slice (some ⟨q, 0, none⟩) 3 3, vi 2]) ?_ ⟨_, rfl, ⟨q, g0, g1, g2, rfl, hvm⟩, Below.refl _ _, hG⟩
      simp [slotOf] at h36
      simp [execOp, go_sem, h36]
  · intro wz hG hR
    rintro _ rfl _ rfl _ rfl _ rfl _ rfl _ rfl _ rfl _ rfl _ - _ rfl _ rfl _ rfl _ rfl _ rfl _ rfl _ rfl _ rfl _ - _ rfl _ rfl _ rfl _ rfl _ rfl _ rfl _ rfl _ rfl _ - _ - _ ⟨q, c0, c1, c2, rfl, hvm⟩
    change wpList _ _ _ _ _ _
    simp only [Act.put, List.setIfInBounds_toArray, List.set_cons_zero, List.set_cons_succ, List.drop_succ_cons, List.drop_zero]
    have hr := H9.out.2.below hG H9.out.2.lt
    have r0 := hr.at 0 (v := .slice none 0 0) rfl
    have r1 := hr.at 1 (v := vi 0) rfl
    have rf0 := hr.free 0
    have rf1 := hr.free 1
    have hset := (hr.set 0 (.slice (some ⟨q, 0, none⟩) 3 3)).set 1 (vi 2)
    have z0 := hset.at 0 (v := .slice (some ⟨q, 0, none⟩) 3 3) rfl
    have z1 := hset.at 1 (v := vi 2) rfl
    have HF : Hid (VM w.heap.size q c0 c1 c2 ((wz.setCell ⟨w.heap.size, 0, none⟩ (.slice (some ⟨q, 0, none⟩) 3 3)).setCell ⟨w.heap.size, 1, none⟩ (vi 2)) ∧ newer w ((wz.setCell ⟨w.heap.size, 0, none⟩ (.slice (some ⟨q, 0, none⟩) 3 3)).setCell ⟨w.heap.size, 1, none⟩ (vi 2))) := Lib.hid (by
      have h9 := H9.out.1.size
      have hl := H9.out.2.lt
      obtain ⟨p1, p2, p3, p4⟩ := hvm.ge
      refine ⟨⟨(hvm.mq.far (by dsimp only; omega) _).far (by dsimp only; omega) _, (hvm.m0.far (by dsimp only; omega) _).far (by dsimp only; omega) _, (hvm.m1.far (by dsimp only; omega) _).far (by dsimp only; omega) _, (hvm.m2.far (by dsimp only; omega) _).far (by dsimp only; omega) _, by omega, by omega, by omega, by omega⟩, ((newer_trans H9.out.1 hG).setCell (p := ⟨w.heap.size, 0, none⟩) (Nat.le_refl _) _).setCell (p := ⟨w.heap.size, 1, none⟩) (Nat.le_refl _) _⟩)
    clear hr hset hvm hG hR s0 s1 f0 f1 n0 n1 k0 k1
    go_wp2_with fail
    exact bodyPost_ret (v := .agg #[.slice (some ⟨q, 0, none⟩) 3 3, vi 2]) (by simp [results, Try.results54, go_sem, z0, z1]) rfl ⟨q, c0, c1, c2, rfl, HF.out.1, HF.out.2⟩

end Go.Proofs.Ytkenokpobbichaa
