/- What the last text of this chain needs: X, Y0, Y, AI, CA, CB. -/
import Derived.Test.YtkenokpobbichaaZN03
namespace Go.Proofs.Ytkenokpobbichaa
section
open Go.RowKit Go.Shelf Go.Deep
def valC (i : Nat) : List Bd := match i with
 | 0 => [⟨400, 900, ⟨300, 400⟩, ⟨50, 60⟩, ⟨100, 200⟩⟩, ⟨600, 1500, ⟨400, 500⟩, ⟨20, 40⟩, ⟨300, 500⟩⟩]
 | 1 => [⟨300, 1000, ⟨300, 400⟩, ⟨50, 60⟩, ⟨0, 200⟩⟩, ⟨500, 1600, ⟨400, 500⟩, ⟨20, 40⟩, ⟨200, 600⟩⟩]
 | _ => [⟨(-100), 1200, ⟨300, 400⟩, ⟨50, 60⟩, ⟨0, 100⟩⟩, ⟨100, 1800, ⟨400, 500⟩, ⟨20, 40⟩, ⟨0, 400⟩⟩]
def valleyD : Sd := ⟨[valC 0, valC 1, valC 2], 2⟩
def valX (i : Nat) : Array Value := match i with
 | 0 => #[vi 400, vi 900, vi 300, vi 400, vi 50, vi 60, vi 100, vi 200, vi 600, vi 1500, vi 400, vi 500, vi 20, vi 40, vi 300, vi 500]
 | 1 => #[vi 300, vi 1000, vi 300, vi 400, vi 50, vi 60, vi 0, vi 200, vi 500, vi 1600, vi 400, vi 500, vi 20, vi 40, vi 200, vi 600]
 | _ => #[vi (-100), vi 1200, vi 300, vi 400, vi 50, vi 60, vi 0, vi 100, vi 100, vi 1800, vi 400, vi 500, vi 20, vi 40, vi 0, vi 400]
structure VM (B q c0 c1 c2 : Nat) (W : World) : Prop where
 mq : Whole W q 105 #[.slice (some ⟨c0, 0, none⟩) 2 2, .slice (some ⟨c1, 0, none⟩) 2 2, .slice (some ⟨c2, 0, none⟩) 2 2]
 m0 : Whole W c0 104 (valX 0)
 m1 : Whole W c1 104 (valX 1)
 m2 : Whole W c2 104 (valX 2)
 ge : B <= q /\ B <= c0 /\ B <= c1 /\ B <= c2
theorem VM.next {B q c0 c1 c2 : Nat} {W W' : World} (h : VM B q c0 c1 c2 W) (hb : newer W W') : VM B q c0 c1 c2 W' := ⟨h.mq.below hb h.mq.lt, h.m0.below hb h.m0.lt, h.m1.below hb h.m1.lt, h.m2.below hb h.m2.lt, h.ge⟩
abbrev valM (q c0 c1 c2 : Nat) : Sm := ⟨[⟨valC 0, some ⟨c0, 0, none⟩, 2⟩, ⟨valC 1, some ⟨c1, 0, none⟩, 2⟩, ⟨valC 2, some ⟨c2, 0, none⟩, 2⟩], some ⟨q, 0, none⟩, 3, 2⟩
theorem VM.ok {B q c0 c1 c2 : Nat} {W : World} (h : VM B q c0 c1 c2 W) : SmOk (valM q c0 c1 c2) W := by
 refine ⟨row_of_whole (enc := clL) (s := 1) (fun _ => rfl) h.mq rfl, fun x hx => ?_⟩
 simp only [List.mem_cons, List.not_mem_nil, or_false] at hx
 rcases hx with rfl | rfl | rfl
 ·exact row_of_whole (enc := bdL) (s := 8) (fun _ => rfl) h.m0 rfl
 ·exact row_of_whole (enc := bdL) (s := 8) (fun _ => rfl) h.m1 rfl
 ·exact row_of_whole (enc := bdL) (s := 8) (fun _ => rfl) h.m2 rfl
theorem VM.sd (q c0 c1 c2 : Nat) : (valM q c0 c1 c2).sd = valleyD := rfl
theorem valM_few (q c0 c1 c2 : Nat) : SmFew (valM q c0 c1 c2) := ⟨by simp, fun x hx => by
 simp only [List.mem_cons, List.not_mem_nil, or_false] at hx
 rcases hx with rfl | rfl | rfl <;> simp [valC]⟩
def vCol (B i : Nat) (v : Value) (W : World) : Prop := ∃ g, v = .slice (some ⟨g, 0, none⟩) 2 2 /\ B <= g /\ Whole W g 104 (valX i)
theorem vCol_st {B i : Nat} : ∀ v W W', vCol B i v W -> newer W W' -> vCol B i v W' := fun _ _ _ ⟨g, h1, h2, h3⟩ hb => ⟨g, h1, h2, h3.below hb h3.lt⟩
def vCols (B : Nat) (v : Value) (W : World) : Prop := ∃ q c0 c1 c2, v = .slice (some ⟨q, 0, none⟩) 3 3 /\ VM B q c0 c1 c2 W
theorem vCols_st {B : Nat} : ∀ v W W', vCols B v W -> newer W W' -> vCols B v W' := fun _ _ _ ⟨q, c0, c1, c2, h1, h2⟩ hb => ⟨q, c0, c1, c2, h1, h2.next hb⟩
def vVal (B : Nat) (v : Value) (W : World) : Prop := ∃ q c0 c1 c2, v = .agg #[.slice (some ⟨q, 0, none⟩) 3 3, vi 2] /\ VM B q c0 c1 c2 W
theorem vVal_st {B : Nat} : ∀ v W W', vVal B v W -> newer W W' -> vVal B v W' := fun _ _ _ ⟨q, c0, c1, c2, h1, h2⟩ hb => ⟨q, c0, c1, c2, h1, h2.next hb⟩
set_option maxRecDepth 100000 in
set_option maxHeartbeats 2000000 in
theorem valley_any (w : World) : Calls Try.prog 54 #[] w fun e w' => ∃ q c0 c1 c2, e = .returned (smV (valM q c0 c1 c2)) /\ VM w.heap.size q c0 c1 c2 w' /\ newer w w' := by
 have H0 := Lib.hid (And.intro (newer_allocH w (.cells #[.slice none 0 0, vi 0] 37)) (Whole.made w 37 #[.slice none 0 0, vi 0]))
 go_enter Try.func54, Try.ntmps54
 go_wp2_with fail
 refine (span56_any 300 400 _).mono ?_
 rintro e w1 ⟨rfl, hb⟩
 have H1 := Lib.hid (And.intro (newer_trans H0.out.1 hb) (H0.out.2.below hb H0.out.2.lt))
 clear H0 hb
 go_wp2_with fail
 refine (span56_any 400 500 _).mono ?_
 rintro e w2 ⟨rfl, hb⟩
 have H2 := Lib.hid (And.intro (newer_trans H1.out.1 hb) (H1.out.2.below hb H1.out.2.lt))
 clear H1 hb
 go_wp2_with fail
 refine (span56_any 50 60 _).mono ?_
 rintro e w3 ⟨rfl, hb⟩
 have H3 := Lib.hid (And.intro (newer_trans H2.out.1 hb) (H2.out.2.below hb H2.out.2.lt))
 clear H2 hb
 go_wp2_with fail
 refine (span56_any 20 40 _).mono ?_
 rintro e w4 ⟨rfl, hb⟩
 have H4 := Lib.hid (And.intro (newer_trans H3.out.1 hb) (H3.out.2.below hb H3.out.2.lt))
 clear H3 hb
 have H9 : Hid (newer w ((((w4.alloc (.cells #[vi 300, vi 400] 31)).alloc (.cells #[vi 400, vi 500] 31)).alloc (.cells #[vi 50, vi 60] 31)).alloc (.cells #[vi 20, vi 40] 31)) /\ Whole ((((w4.alloc (.cells #[vi 300, vi 400] 31)).alloc (.cells #[vi 400, vi 500] 31)).alloc (.cells #[vi 50, vi 60] 31)).alloc (.cells #[vi 20, vi 40] 31)) w.heap.size 37 #[.slice none 0 0, vi 0] /\ Whole ((((w4.alloc (.cells #[vi 300, vi 400] 31)).alloc (.cells #[vi 400, vi 500] 31)).alloc (.cells #[vi 50, vi 60] 31)).alloc (.cells #[vi 20, vi 40] 31)) w4.heap.size 31 #[vi 300, vi 400] /\ Whole ((((w4.alloc (.cells #[vi 300, vi 400] 31)).alloc (.cells #[vi 400, vi 500] 31)).alloc (.cells #[vi 50, vi 60] 31)).alloc (.cells #[vi 20, vi 40] 31)) (w4.heap.size + 1) 31 #[vi 400, vi 500] /\ Whole ((((w4.alloc (.cells #[vi 300, vi 400] 31)).alloc (.cells #[vi 400, vi 500] 31)).alloc (.cells #[vi 50, vi 60] 31)).alloc (.cells #[vi 20, vi 40] 31)) (w4.heap.size + 1 + 1) 31 #[vi 50, vi 60] /\ Whole ((((w4.alloc (.cells #[vi 300, vi 400] 31)).alloc (.cells #[vi 400, vi 500] 31)).alloc (.cells #[vi 50, vi 60] 31)).alloc (.cells #[vi 20, vi 40] 31)) (w4.heap.size + 1 + 1 + 1) 31 #[vi 20, vi 40]) := Lib.hid (by
  have m0 := (((Whole.made w4 31 #[vi 300, vi 400]).alloc (.cells #[vi 400, vi 500] 31)).alloc (.cells #[vi 50, vi 60] 31)).alloc (.cells #[vi 20, vi 40] 31)
  have m1 := ((Whole.made (w4.alloc (.cells #[vi 300, vi 400] 31)) 31 #[vi 400, vi 500]).alloc (.cells #[vi 50, vi 60] 31)).alloc (.cells #[vi 20, vi 40] 31)
  have m2 := (Whole.made ((w4.alloc (.cells #[vi 300, vi 400] 31)).alloc (.cells #[vi 400, vi 500] 31)) 31 #[vi 50, vi 60]).alloc (.cells #[vi 20, vi 40] 31)
  have m3 := Whole.made (((w4.alloc (.cells #[vi 300, vi 400] 31)).alloc (.cells #[vi 400, vi 500] 31)).alloc (.cells #[vi 50, vi 60] 31)) 31 #[vi 20, vi 40]
  simp only [World.size_alloc] at m1 m2 m3
  have e := newer_trans (newer_trans (newer_trans (newer_allocH w4 (.cells #[vi 300, vi 400] 31)) (newer_allocH _ (.cells #[vi 400, vi 500] 31))) (newer_allocH _ (.cells #[vi 50, vi 60] 31))) (newer_allocH _ (.cells #[vi 20, vi 40] 31))
  exact ⟨newer_trans H4.out.1 e, H4.out.2.below e H4.out.2.lt, m0, m1, m2, m3⟩)
 clear H4
 go_upto_region 2 with fail
 refine genQ (fun X => newer w X /\ Whole X w.heap.size 37 #[.slice none 0 0, vi 0] /\ Whole X w4.heap.size 31 #[vi 300, vi 400] /\ Whole X (w4.heap.size + 1) 31 #[vi 400, vi 500] /\ Whole X (w4.heap.size + 1 + 1) 31 #[vi 50, vi 60] /\ Whole X (w4.heap.size + 1 + 1 + 1) 31 #[vi 20, vi 40]) H9.out ?_
 clear H9
 rintro w9 ⟨a1, a2, a3, a4, a5, a6⟩
 have s0 := a3.at 0 (v := vi 300) rfl
 have s1 := a3.at 1 (v := vi 400) rfl
 have f0 := a4.at 0 (v := vi 400) rfl
 have f1 := a4.at 1 (v := vi 500) rfl
 have n0 := a5.at 0 (v := vi 50) rfl
 have n1 := a5.at 1 (v := vi 60) rfl
 have k0 := a6.at 0 (v := vi 20) rfl
 have k1 := a6.at 1 (v := vi 40) rfl
 have H9 := Lib.hid (And.intro a1 a2)
 clear a1 a2 a3 a4 a5 a6
 refine wp_words (by kernel_rfl) (region_told 29 (by kernel_rfl) (by kernel_rfl) (fun W => Below w9.heap.size w9 W) newer (pickD [vIs (rgV ⟨300, 400⟩), vIs (rgV ⟨50, 60⟩), vIs (rgV ⟨100, 200⟩), vIs (bdV ⟨400, 900, ⟨300, 400⟩, ⟨50, 60⟩, ⟨100, 200⟩⟩), vIs (rgV ⟨400, 500⟩), vIs (rgV ⟨20, 40⟩), vIs (rgV ⟨300, 500⟩), vIs (bdV ⟨600, 1500, ⟨400, 500⟩, ⟨20, 40⟩, ⟨300, 500⟩⟩), vCol w9.heap.size 0, vIs (rgV ⟨300, 400⟩), vIs (rgV ⟨50, 60⟩), vIs (rgV ⟨0, 200⟩), vIs (bdV ⟨300, 1000, ⟨300, 400⟩, ⟨50, 60⟩, ⟨0, 200⟩⟩), vIs (rgV ⟨400, 500⟩), vIs (rgV ⟨20, 40⟩), vIs (rgV ⟨200, 600⟩), vIs (bdV ⟨500, 1600, ⟨400, 500⟩, ⟨20, 40⟩, ⟨200, 600⟩⟩), vCol w9.heap.size 1, vIs (rgV ⟨300, 400⟩), vIs (rgV ⟨50, 60⟩), vIs (rgV ⟨0, 100⟩), vIs (bdV ⟨(-100), 1200, ⟨300, 400⟩, ⟨50, 60⟩, ⟨0, 100⟩⟩), vIs (rgV ⟨400, 500⟩), vIs (rgV ⟨20, 40⟩), vIs (rgV ⟨0, 400⟩), vIs (bdV ⟨100, 1800, ⟨400, 500⟩, ⟨20, 40⟩, ⟨0, 400⟩⟩), vCol w9.heap.size 2, vCols w9.heap.size, vVal w9.heap.size]) (fun h k => newer_trans h k) (pickD_stable _ ⟨vIs_st, vIs_st, vIs_st, vIs_st, vIs_st, vIs_st, vIs_st, vIs_st, vCol_st, vIs_st, vIs_st, vIs_st, vIs_st, vIs_st, vIs_st, vIs_st, vIs_st, vCol_st, vIs_st, vIs_st, vIs_st, vIs_st, vIs_st, vIs_st, vIs_st, vIs_st, vCol_st, vCols_st, vVal_st, trivial⟩) (Below.refl _ w9).drew (Below.refl _ _) ?_ ?_)
 ·refine ⟨?_, ?_, ?_, ?_, ?_, ?_, ?_, ?_, ?_, ?_, ?_, ?_, ?_, ?_, ?_, ?_, ?_, ?_, ?_, ?_, ?_, ?_, ?_, ?_, ?_, ?_, ?_, ?_, ?_, trivial⟩
  ·intro a W hG hR hO hp; have h1 := hO.slot 1 (by kernel_rfl); have c0 := keep_cell s0 hG; have c1 := keep_cell s1 hG; refine kY (v := rgV ⟨300, 400⟩) hG rfl ?_; simp [slotOf] at h1; simp [execOp, go_sem, h1, c0, c1]
  ·intro a W hG hR hO hp; have h3 := hO.slot 3 (by kernel_rfl); have c0 := keep_cell n0 hG; have c1 := keep_cell n1 hG; refine kY (v := rgV ⟨50, 60⟩) hG rfl ?_; simp [slotOf] at h3; simp [execOp, go_sem, h3, c0, c1]
  ·intro a W hG hR hO hp
   refine wp_enters (f := 56) (args := #[vi 100, vi 200]) ?_ ((span56_any 100 200 W).mono ?_)
   ·skip
    simp [go_sem]
   ·rintro e w' ⟨rfl, hb⟩
    exact ⟨_, rfl, _, rfl, rfl, hb, below_next hG hb⟩
  ·intro a W hG hR hO hp
   have h9 : slotOf a 9 = rgV ⟨300, 400⟩ := hp.1
   have h10 : slotOf a 10 = rgV ⟨50, 60⟩ := hp.2.1
   have h11 : slotOf a 11 = rgV ⟨100, 200⟩ := hp.2.2.1
   refine wp_enters (f := 87) (args := #[vi 400, vi 900, rgV ⟨300, 400⟩, rgV ⟨50, 60⟩, rgV ⟨100, 200⟩]) ?_ ((bed87_any 400 900 ⟨300, 400⟩ ⟨50, 60⟩ ⟨100, 200⟩ W).mono ?_)
   ·simp [slotOf] at h9 h10 h11
    simp [go_sem, h9, h10, h11]
   ·rintro e w' ⟨rfl, hb⟩
    exact ⟨_, rfl, _, rfl, rfl, hb, below_next hG hb⟩
  ·intro a W hG hR hO hp; have h2 := hO.slot 2 (by kernel_rfl); have c0 := keep_cell f0 hG; have c1 := keep_cell f1 hG; refine kY (v := rgV ⟨400, 500⟩) hG rfl ?_; simp [slotOf] at h2; simp [execOp, go_sem, h2, c0, c1]
  ·intro a W hG hR hO hp; have h4 := hO.slot 4 (by kernel_rfl); have c0 := keep_cell k0 hG; have c1 := keep_cell k1 hG; refine kY (v := rgV ⟨20, 40⟩) hG rfl ?_; simp [slotOf] at h4; simp [execOp, go_sem, h4, c0, c1]
  ·intro a W hG hR hO hp
   refine wp_enters (f := 56) (args := #[vi 300, vi 500]) ?_ ((span56_any 300 500 W).mono ?_)
   ·skip
    simp [go_sem]
   ·rintro e w' ⟨rfl, hb⟩
    exact ⟨_, rfl, _, rfl, rfl, hb, below_next hG hb⟩
  ·intro a W hG hR hO hp
   have h13 : slotOf a 13 = rgV ⟨400, 500⟩ := hp.1
   have h14 : slotOf a 14 = rgV ⟨20, 40⟩ := hp.2.1
   have h15 : slotOf a 15 = rgV ⟨300, 500⟩ := hp.2.2.1
   refine wp_enters (f := 87) (args := #[vi 600, vi 1500, rgV ⟨400, 500⟩, rgV ⟨20, 40⟩, rgV ⟨300, 500⟩]) ?_ ((bed87_any 600 1500 ⟨400, 500⟩ ⟨20, 40⟩ ⟨300, 500⟩ W).mono ?_)
   ·simp [slotOf] at h13 h14 h15
    simp [go_sem, h13, h14, h15]
   ·rintro e w' ⟨rfl, hb⟩
    exact ⟨_, rfl, _, rfl, rfl, hb, below_next hG hb⟩
  ·intro a W hG hR hO hp; have h12 : slotOf a 12 = bdV ⟨400, 900, ⟨300, 400⟩, ⟨50, 60⟩, ⟨100, 200⟩⟩ := hp.1; have h16 : slotOf a 16 = bdV ⟨600, 1500, ⟨400, 500⟩, ⟨20, 40⟩, ⟨300, 500⟩⟩ := hp.2.1; refine wp_makes (v := .slice (some ⟨W.heap.size, 0, none⟩) 2 2) (W' := W.alloc (.cells (valX 0) 104)) ?_ ⟨_, rfl, ⟨_, rfl, hG.size, Whole.made _ _ _⟩, newer_allocH _ _, below_next hG (newer_allocH _ _)⟩; simp [slotOf] at h12 h16; simp [execOp, go_sem, h12, h16, valX]
  ·intro a W hG hR hO hp; have h1 := hO.slot 1 (by kernel_rfl); have c0 := keep_cell s0 hG; have c1 := keep_cell s1 hG; refine kY (v := rgV ⟨300, 400⟩) hG rfl ?_; simp [slotOf] at h1; simp [execOp, go_sem, h1, c0, c1]
  ·intro a W hG hR hO hp; have h3 := hO.slot 3 (by kernel_rfl); have c0 := keep_cell n0 hG; have c1 := keep_cell n1 hG; refine kY (v := rgV ⟨50, 60⟩) hG rfl ?_; simp [slotOf] at h3; simp [execOp, go_sem, h3, c0, c1]
  ·intro a W hG hR hO hp
   refine wp_enters (f := 56) (args := #[vi 0, vi 200]) ?_ ((span56_any 0 200 W).mono ?_)
   ·skip
    simp [go_sem]
   ·rintro e w' ⟨rfl, hb⟩
    exact ⟨_, rfl, _, rfl, rfl, hb, below_next hG hb⟩
  ·intro a W hG hR hO hp
   have h18 : slotOf a 18 = rgV ⟨300, 400⟩ := hp.1
   have h19 : slotOf a 19 = rgV ⟨50, 60⟩ := hp.2.1
   have h20 : slotOf a 20 = rgV ⟨0, 200⟩ := hp.2.2.1
   refine wp_enters (f := 87) (args := #[vi 300, vi 1000, rgV ⟨300, 400⟩, rgV ⟨50, 60⟩, rgV ⟨0, 200⟩]) ?_ ((bed87_any 300 1000 ⟨300, 400⟩ ⟨50, 60⟩ ⟨0, 200⟩ W).mono ?_)
   ·simp [slotOf] at h18 h19 h20
    simp [go_sem, h18, h19, h20]
   ·rintro e w' ⟨rfl, hb⟩
    exact ⟨_, rfl, _, rfl, rfl, hb, below_next hG hb⟩
  ·intro a W hG hR hO hp; have h2 := hO.slot 2 (by kernel_rfl); have c0 := keep_cell f0 hG; have c1 := keep_cell f1 hG; refine kY (v := rgV ⟨400, 500⟩) hG rfl ?_; simp [slotOf] at h2; simp [execOp, go_sem, h2, c0, c1]
  ·intro a W hG hR hO hp; have h4 := hO.slot 4 (by kernel_rfl); have c0 := keep_cell k0 hG; have c1 := keep_cell k1 hG; refine kY (v := rgV ⟨20, 40⟩) hG rfl ?_; simp [slotOf] at h4; simp [execOp, go_sem, h4, c0, c1]
  ·intro a W hG hR hO hp
   refine wp_enters (f := 56) (args := #[vi 200, vi 600]) ?_ ((span56_any 200 600 W).mono ?_)
   ·skip
    simp [go_sem]
   ·rintro e w' ⟨rfl, hb⟩
    exact ⟨_, rfl, _, rfl, rfl, hb, below_next hG hb⟩
  ·intro a W hG hR hO hp
   have h22 : slotOf a 22 = rgV ⟨400, 500⟩ := hp.1
   have h23 : slotOf a 23 = rgV ⟨20, 40⟩ := hp.2.1
   have h24 : slotOf a 24 = rgV ⟨200, 600⟩ := hp.2.2.1
   refine wp_enters (f := 87) (args := #[vi 500, vi 1600, rgV ⟨400, 500⟩, rgV ⟨20, 40⟩, rgV ⟨200, 600⟩]) ?_ ((bed87_any 500 1600 ⟨400, 500⟩ ⟨20, 40⟩ ⟨200, 600⟩ W).mono ?_)
   ·simp [slotOf] at h22 h23 h24
    simp [go_sem, h22, h23, h24]
   ·rintro e w' ⟨rfl, hb⟩
    exact ⟨_, rfl, _, rfl, rfl, hb, below_next hG hb⟩
  ·intro a W hG hR hO hp; have h21 : slotOf a 21 = bdV ⟨300, 1000, ⟨300, 400⟩, ⟨50, 60⟩, ⟨0, 200⟩⟩ := hp.1; have h25 : slotOf a 25 = bdV ⟨500, 1600, ⟨400, 500⟩, ⟨20, 40⟩, ⟨200, 600⟩⟩ := hp.2.1; refine wp_makes (v := .slice (some ⟨W.heap.size, 0, none⟩) 2 2) (W' := W.alloc (.cells (valX 1) 104)) ?_ ⟨_, rfl, ⟨_, rfl, hG.size, Whole.made _ _ _⟩, newer_allocH _ _, below_next hG (newer_allocH _ _)⟩; simp [slotOf] at h21 h25; simp [execOp, go_sem, h21, h25, valX]
  ·intro a W hG hR hO hp; have h1 := hO.slot 1 (by kernel_rfl); have c0 := keep_cell s0 hG; have c1 := keep_cell s1 hG; refine kY (v := rgV ⟨300, 400⟩) hG rfl ?_; simp [slotOf] at h1; simp [execOp, go_sem, h1, c0, c1]
  ·intro a W hG hR hO hp; have h3 := hO.slot 3 (by kernel_rfl); have c0 := keep_cell n0 hG; have c1 := keep_cell n1 hG; refine kY (v := rgV ⟨50, 60⟩) hG rfl ?_; simp [slotOf] at h3; simp [execOp, go_sem, h3, c0, c1]
  ·intro a W hG hR hO hp
   refine wp_enters (f := 56) (args := #[vi 0, vi 100]) ?_ ((span56_any 0 100 W).mono ?_)
   ·skip
    simp [go_sem]
   ·rintro e w' ⟨rfl, hb⟩
    exact ⟨_, rfl, _, rfl, rfl, hb, below_next hG hb⟩
  ·intro a W hG hR hO hp
   have h27 : slotOf a 27 = rgV ⟨300, 400⟩ := hp.1
   have h28 : slotOf a 28 = rgV ⟨50, 60⟩ := hp.2.1
   have h29 : slotOf a 29 = rgV ⟨0, 100⟩ := hp.2.2.1
   refine wp_enters (f := 87) (args := #[vi (-100), vi 1200, rgV ⟨300, 400⟩, rgV ⟨50, 60⟩, rgV ⟨0, 100⟩]) ?_ ((bed87_any (-100) 1200 ⟨300, 400⟩ ⟨50, 60⟩ ⟨0, 100⟩ W).mono ?_)
   ·simp [slotOf] at h27 h28 h29
    simp [go_sem, h27, h28, h29]
   ·rintro e w' ⟨rfl, hb⟩
    exact ⟨_, rfl, _, rfl, rfl, hb, below_next hG hb⟩
  ·intro a W hG hR hO hp; have h2 := hO.slot 2 (by kernel_rfl); have c0 := keep_cell f0 hG; have c1 := keep_cell f1 hG; refine kY (v := rgV ⟨400, 500⟩) hG rfl ?_; simp [slotOf] at h2; simp [execOp, go_sem, h2, c0, c1]
  ·intro a W hG hR hO hp; have h4 := hO.slot 4 (by kernel_rfl); have c0 := keep_cell k0 hG; have c1 := keep_cell k1 hG; refine kY (v := rgV ⟨20, 40⟩) hG rfl ?_; simp [slotOf] at h4; simp [execOp, go_sem, h4, c0, c1]
  ·intro a W hG hR hO hp
   refine wp_enters (f := 56) (args := #[vi 0, vi 400]) ?_ ((span56_any 0 400 W).mono ?_)
   ·skip
    simp [go_sem]
   ·rintro e w' ⟨rfl, hb⟩
    exact ⟨_, rfl, _, rfl, rfl, hb, below_next hG hb⟩
  ·intro a W hG hR hO hp
   have h31 : slotOf a 31 = rgV ⟨400, 500⟩ := hp.1
   have h32 : slotOf a 32 = rgV ⟨20, 40⟩ := hp.2.1
   have h33 : slotOf a 33 = rgV ⟨0, 400⟩ := hp.2.2.1
   refine wp_enters (f := 87) (args := #[vi 100, vi 1800, rgV ⟨400, 500⟩, rgV ⟨20, 40⟩, rgV ⟨0, 400⟩]) ?_ ((bed87_any 100 1800 ⟨400, 500⟩ ⟨20, 40⟩ ⟨0, 400⟩ W).mono ?_)
   ·simp [slotOf] at h31 h32 h33
    simp [go_sem, h31, h32, h33]
   ·rintro e w' ⟨rfl, hb⟩
    exact ⟨_, rfl, _, rfl, rfl, hb, below_next hG hb⟩
  ·intro a W hG hR hO hp; have h30 : slotOf a 30 = bdV ⟨(-100), 1200, ⟨300, 400⟩, ⟨50, 60⟩, ⟨0, 100⟩⟩ := hp.1; have h34 : slotOf a 34 = bdV ⟨100, 1800, ⟨400, 500⟩, ⟨20, 40⟩, ⟨0, 400⟩⟩ := hp.2.1; refine wp_makes (v := .slice (some ⟨W.heap.size, 0, none⟩) 2 2) (W' := W.alloc (.cells (valX 2) 104)) ?_ ⟨_, rfl, ⟨_, rfl, hG.size, Whole.made _ _ _⟩, newer_allocH _ _, below_next hG (newer_allocH _ _)⟩; simp [slotOf] at h30 h34; simp [execOp, go_sem, h30, h34, valX]
  ·intro a W hG hR hO hp; have h17 := hp.1; have h26 := hp.2.1; have h35 := hp.2.2.1; obtain ⟨g0, h17, ha0, hw0⟩ := h17; obtain ⟨g1, h26, ha1, hw1⟩ := h26; obtain ⟨g2, h35, ha2, hw2⟩ := h35; refine wp_makes (v := .slice (some ⟨W.heap.size, 0, none⟩) 3 3) (W' := W.alloc (.cells #[.slice (some ⟨g0, 0, none⟩) 2 2, .slice (some ⟨g1, 0, none⟩) 2 2, .slice (some ⟨g2, 0, none⟩) 2 2] 105)) ?_ ⟨_, rfl, ⟨_, g0, g1, g2, rfl, Whole.made _ _ _, hw0.alloc _, hw1.alloc _, hw2.alloc _, hG.size, ha0, ha1, ha2⟩, newer_allocH _ _, below_next hG (newer_allocH _ _)⟩; simp [slotOf] at h17 h26 h35; simp [execOp, go_sem, h17, h26, h35]
  ·intro a W hG hR hO hp; have h36 := hp.1; obtain ⟨q, g0, g1, g2, h36, hvm⟩ := h36; refine wp_yields (v := .agg #[.slice (some ⟨q, 0, none⟩) 3 3, vi 2]) ?_ ⟨_, rfl, ⟨q, g0, g1, g2, rfl, hvm⟩, Below.refl _ _, hG⟩; simp [slotOf] at h36; simp [execOp, go_sem, h36]
 ·intro wz hG hR
  rintro _ rfl _ rfl _ rfl _ rfl _ rfl _ rfl _ rfl _ rfl _ - _ rfl _ rfl _ rfl _ rfl _ rfl _ rfl _ rfl _ rfl _ - _ rfl _ rfl _ rfl _ rfl _ rfl _ rfl _ rfl _ rfl _ - _ - _ ⟨q, c0, c1, c2, rfl, hvm⟩
  change wpList _ _ _ _ _ _
  simp only [Act.put, List.setIfInBounds_toArray, List.set_cons_zero, List.set_cons_succ, List.drop_succ_cons, List.drop_zero]
  have hr := H9.out.2.below hG H9.out.2.lt
  have r0 := hr.at 0 (v := .slice none 0 0) rfl
  have r1 := hr.at 1 (v := vi 0) rfl
  have rf0 := hr.free 0
  have rf1 := hr.free 1
  have hset := (hr.set 0 (.slice (some ⟨q, 0, none⟩) 3 3)).set 1 (vi 2)
  have z0 := hset.at 0 (v := .slice (some ⟨q, 0, none⟩) 3 3) rfl
  have z1 := hset.at 1 (v := vi 2) rfl
  have HF : Hid (VM w.heap.size q c0 c1 c2 ((wz.setCell ⟨w.heap.size, 0, none⟩ (.slice (some ⟨q, 0, none⟩) 3 3)).setCell ⟨w.heap.size, 1, none⟩ (vi 2)) /\ newer w ((wz.setCell ⟨w.heap.size, 0, none⟩ (.slice (some ⟨q, 0, none⟩) 3 3)).setCell ⟨w.heap.size, 1, none⟩ (vi 2))) := Lib.hid (by
   have h9 := H9.out.1.size
   have hl := H9.out.2.lt
   obtain ⟨p1, p2, p3, p4⟩ := hvm.ge
   refine ⟨⟨(hvm.mq.far (by dsimp only; omega) _).far (by dsimp only; omega) _, (hvm.m0.far (by dsimp only; omega) _).far (by dsimp only; omega) _, (hvm.m1.far (by dsimp only; omega) _).far (by dsimp only; omega) _, (hvm.m2.far (by dsimp only; omega) _).far (by dsimp only; omega) _, by omega, by omega, by omega, by omega⟩, ((newer_trans H9.out.1 hG).setCell (p := ⟨w.heap.size, 0, none⟩) (Nat.le_refl _) _).setCell (p := ⟨w.heap.size, 1, none⟩) (Nat.le_refl _) _⟩)
  clear hr hset hvm hG hR s0 s1 f0 f1 n0 n1 k0 k1
  go_wp2_with fail
  exact bodyPost_ret (v := .agg #[.slice (some ⟨q, 0, none⟩) 3 3, vi 2]) (by simp [results, Try.results54, go_sem, z0, z1]) rfl ⟨q, c0, c1, c2, rfl, HF.out.1, HF.out.2⟩
end

section
open Go.RowKit Go.Shelf Go.Deep
theorem val_span : checkUN valleyD 0 [0, 0] = 0 /\ dK (bedsU valleyD 0 [0, 0]) (bedsU valleyD 0 [0, 0]).length = 700 /\ facE (bedsU valleyD 0 [0, 0]) false = 785 /\ facE (bedsU valleyD 0 [0, 0]) true = 1200 := by decide +kernel
theorem val_ok : slopeB valleyD = true := by decide +kernel
theorem val_worst : worstS valleyD = some ((0, [0, 1]), 755) := by decide +kernel
theorem val_enough : enoughN valleyD 700 = 0 := by decide +kernel
theorem val_margin : marginS valleyD 700 = 70 := by decide +kernel
theorem val_moves : askedN valleyD 1300 = 0 /\ movesL valleyD 1300 (some true) = [0, 1] /\ movesL valleyD 1300 (some false) = [0, 1, 2] := by decide +kernel
end

section
open Go.RowKit Go.Shelf Go.Deep
theorem exec_eq31 {o : Oper} {a : Act} {W : World} {x y : Operand} {lo hi : Int} (ho : o.op = .binOp .eql 31 x y 31) (hx : a.eval x = .agg #[vi lo, vi hi]) (hy : a.eval y = .agg #[vi lo, vi hi]) : (execOp a.eval o).run Try.prog W = .ok (.value (.bool true)) W := by
 unfold execOp
 rw [ho]
 dsimp only
 rw [hx, hy]
 simp [go_sem]
theorem val_span_any (q c0 c1 c2 ub cc : Nat) (w : World) {B : Nat} (h : VM B q c0 c1 c2 w) (hu : Whole w ub 3 #[vi 0, vi 0]) : Calls Try.prog 18 #[smV (valM q c0 c1 c2), .agg #[vi 0, .slice (some ⟨ub, 0, none⟩) 2 cc]] w fun e w' => e = .returned (.tuple #[.agg #[vi 785, vi 1200], vi 0]) /\ newer w w' := by
 have h1 := span_any (valM q c0 c1 c2) ⟨0, [0, 0], some ⟨ub, 0, none⟩, cc⟩ w h.ok (valM_few _ _ _ _) (row_of_whole (enc := intL) (s := 1) (fun _ => rfl) hu rfl) (by simp)
 have e : spanV (valM q c0 c1 c2).sd 0 [0, 0] = .tuple #[.agg #[vi 785, vi 1200], vi 0] := by
  rw [VM.sd]
  unfold spanV
  obtain ⟨e1, e2, e3, e4⟩ := val_span
  rw [if_pos e1, e2, if_neg (by decide), e3, e4]
 rw [e] at h1
 exact h1
theorem worst_says (s : Sm) (w : World) (hok : SmOk s w) (few : SmFew s) {k : Nat} {l : List Nat} {v : Int} (hv : slopeB s.sd = true) (hw : worstS s.sd = some ((k, l), v)) : Calls Try.prog 25 #[smV s] w fun e w' => ∃ A c, e = .returned (.tuple #[.agg #[vi k, .slice A l.length c], vi v, vi 0]) /\ w'.ownsRow w.heap.size 3 1 (.slice A l.length c) l.length (l.map fun x : Nat => vi x) /\ newer w w' := by
 refine (worst_any s w hok few).mono ?_
 rintro e w' ⟨h1, h2⟩
 unfold worstOut at h1
 rw [hv, hw] at h1
 obtain ⟨A, c, h3, h4⟩ := h1
 exact ⟨A, c, h3, h4, h2⟩
theorem val_worst_any (q c0 c1 c2 : Nat) (w : World) {B : Nat} (h : VM B q c0 c1 c2 w) : Calls Try.prog 25 #[smV (valM q c0 c1 c2)] w fun e w' => ∃ A c, e = .returned (.tuple #[.agg #[vi 0, .slice A 2 c], vi 755, vi 0]) /\ Row intL 1 w' w'.heap.size A [0, 1] /\ newer w w' := by
 refine (worst_says (valM q c0 c1 c2) w h.ok (valM_few _ _ _ _) (k := 0) (l := [0, 1]) (v := 755) val_ok val_worst).mono ?_
 rintro e w' ⟨A, c, h3, h4, h2⟩
 exact ⟨A, c, h3, row_of_own (enc := intL) (size := 1) (l := [0, 1]) (by omega) (fun _ => rfl) h4, h2⟩
theorem val_margin_any (q c0 c1 c2 : Nat) (w : World) {B : Nat} (h : VM B q c0 c1 c2 w) : Calls Try.prog 31 #[smV (valM q c0 c1 c2), vi 700] w fun e w' => e = .returned (.tuple #[vi 70, vi 0]) /\ newer w w' := by
 have h1 := margin_any (valM q c0 c1 c2) 700 w h.ok (valM_few _ _ _ _)
 have e : marginOut (valM q c0 c1 c2).sd 700 = .tuple #[vi 70, vi 0] := by
  rw [VM.sd]
  unfold marginOut
  rw [if_pos val_enough, val_margin]
  rfl
 rw [e] at h1
 exact h1
theorem val_moves_any (q c0 c1 c2 : Nat) (w : World) {B : Nat} (h : VM B q c0 c1 c2 w) : Calls Try.prog 35 #[smV (valM q c0 c1 c2), vi 1300] w fun e w' => ∃ A c D d, e = .returned (.tuple #[.slice A 2 c, .slice D 3 d, vi 0]) /\ Row intL 1 w' w'.heap.size A [0, 1] /\ Row intL 1 w' w'.heap.size D [0, 1, 2] /\ newer w w' := by
 refine (moves35_any (valM q c0 c1 c2) 1300 w h.ok (valM_few _ _ _ _)).mono ?_
 rintro e w' ⟨h1, h2⟩
 unfold movesOut at h1
 rw [VM.sd, val_moves.1, val_moves.2.1, val_moves.2.2] at h1
 obtain ⟨A, c, D, d, h3, h4, h5⟩ := h1
 exact ⟨A, c, D, d, h3, row_of_own (enc := intL) (size := 1) (l := [0, 1]) (by omega) (fun _ => rfl) h4, row_of_own (enc := intL) (size := 1) (l := [0, 1, 2]) (by omega) (fun _ => rfl) h5, h2⟩
set_option maxRecDepth 100000 in
set_option maxHeartbeats 8000000 in
theorem wakes_any (w : World) : Calls Try.prog 17 #[] w fun e w' => e = .returned (.bool true) /\ newer w w' := by
 go_enter Try.func17, Try.ntmps17
 go_wp2_with fail
 refine (valley_any w).mono ?_
 rintro e w1 ⟨q1, a1, b1, c1, rfl, hv1, hb1⟩
 have e2 := newer_allocH w1 (.cells #[vi 0, vi 0] 3)
 have HV1 := Lib.hid (And.intro (hv1.next e2) (And.intro (Whole.made w1 3 #[vi 0, vi 0]) (newer_trans hb1 e2)))
 clear hv1 hb1 e2
 go_wp2_with fail
 refine (from0_any _ _ _ _).mono ?_
 rintro e w2 ⟨rfl, hb⟩
 have HV2 := Lib.hid (And.intro (HV1.out.1.next hb) (And.intro (HV1.out.2.1.below hb HV1.out.2.1.lt) (newer_trans HV1.out.2.2 hb)))
 clear hb HV1
 go_wp2_with fail
 refine (val_span_any q1 a1 b1 c1 _ _ w2 HV2.out.1 HV2.out.2.1).mono ?_
 rintro e w3 ⟨rfl, hb⟩
 have e4 := newer_allocH w3 (.cells #[vi 785, vi 1200] 31)
 have H3 := Lib.hid (And.intro (newer_trans (newer_trans HV2.out.2.2 hb) e4) (Whole.made w3 31 #[vi 785, vi 1200]))
 clear hb HV2 e4
 go_wp2_with fail
 obtain ⟨qb, hqb⟩ : ∃ qb, qb = w3.heap.size := ⟨_, rfl⟩
 rw [<- hqb] at H3 ⊢
 clear hqb
 refine (valley_any _).mono ?_
 rintro e w4 ⟨q2, a2, b2, c2, rfl, hv, hb⟩
 have H4 := Lib.hid (And.intro (newer_trans H3.out.1 hb) (And.intro (H3.out.2.below hb H3.out.2.lt) hv))
 clear hv hb H3
 go_wp2_with fail
 refine (val_worst_any q2 a2 b2 c2 w4 H4.out.2.2).mono ?_
 rintro e w5 ⟨A1, d1, rfl, hr, hb⟩
 have e6 := newer_allocH w5 (.cells #[vi 0, .slice A1 2 d1] 39)
 have H5 := Lib.hid (And.intro (newer_trans (newer_trans H4.out.1 hb) e6) (And.intro ((H4.out.2.1.below hb H4.out.2.1.lt).below e6 ((H4.out.2.1.below hb H4.out.2.1.lt).lt)) (And.intro (Whole.made w5 39 #[vi 0, .slice A1 2 d1]) ((hr.below e6).more e6.size))))
 clear hb hr e6 H4
 go_wp2_with fail
 obtain ⟨ub, hub⟩ : ∃ ub, ub = w5.heap.size := ⟨_, rfl⟩
 rw [<- hub] at H5 ⊢
 clear hub
 refine (valley_any _).mono ?_
 rintro e w6 ⟨q3, a3, b3, c3, rfl, hv, hb⟩
 have H6 := Lib.hid (And.intro (newer_trans H5.out.1 hb) (And.intro (H5.out.2.1.below hb H5.out.2.1.lt) (And.intro (H5.out.2.2.1.below hb H5.out.2.2.1.lt) (And.intro ((H5.out.2.2.2.below hb).more hb.size) hv))))
 clear hv hb H5
 go_wp2_with fail
 refine (val_margin_any q3 a3 b3 c3 w6 H6.out.2.2.2.2).mono ?_
 rintro e w7 ⟨rfl, hb⟩
 have H7 := Lib.hid (And.intro (newer_trans H6.out.1 hb) (And.intro (H6.out.2.1.below hb H6.out.2.1.lt) (And.intro (H6.out.2.2.1.below hb H6.out.2.2.1.lt) ((H6.out.2.2.2.1.below hb).more hb.size))))
 clear hb H6
 go_wp2_with fail
 refine (valley_any _).mono ?_
 rintro e w8 ⟨q4, a4, b4, c4, rfl, hv, hb⟩
 have H8 := Lib.hid (And.intro (newer_trans H7.out.1 hb) (And.intro (H7.out.2.1.below hb H7.out.2.1.lt) (And.intro (H7.out.2.2.1.below hb H7.out.2.2.1.lt) (And.intro ((H7.out.2.2.2.below hb).more hb.size) hv))))
 clear hv hb H7
 go_wp2_with fail
 refine (val_moves_any q4 a4 b4 c4 w8 H8.out.2.2.2.2).mono ?_
 rintro e w9 ⟨A2, d2, A3, d3, rfl, hr2, hr3, hb⟩
 have H9 := Lib.hid (And.intro (newer_trans H8.out.1 hb) (And.intro (H8.out.2.1.below hb H8.out.2.1.lt) (H8.out.2.2.1.below hb H8.out.2.2.1.lt)))
 have HR := Lib.hid (And.intro ((H8.out.2.2.2.1.below hb).more hb.size) (And.intro hr2 hr3))
 clear hb hr2 hr3 H8
 have q0 := H9.out.2.1.at 0 (v := vi 785) rfl
 have q1 := H9.out.2.1.at 1 (v := vi 1200) rfl
 have u0 := H9.out.2.2.at 0 (v := vi 0) rfl
 have u1 := H9.out.2.2.at 1 (v := .slice A1 2 d1) rfl
 go_upto_region 5 with fail
 refine wp_words (by kernel_rfl) (region_told_g 48 (by kernel_rfl) (by kernel_rfl) (fun W => Below w9.heap.size w9 W) newer (pickD [vIs (vi 0), vIs (.bool true), vIs (.bool true), vIs (vi 0), vIs (.bool true), vIs (.bool true), vIs (.bool true), vIs (vi 0), vIs (.bool true), vIs (.bool true), vIs (.bool true), vIs (vi 0), vIs (.bool true), vIs (.bool true), vIs (.bool true), vIs (.agg #[vi 785, vi 1200]), vIs (.agg #[vi 785, vi 1200]), vIs (.bool true), vIs (.bool true), vIs (.bool true), vIs (.pointer (some ⟨ub, 0, none⟩)), vIs (vi 0), vIs (.bool true), vIs (.bool true), vIs (.bool true), vIs (.pointer (some ⟨ub, 1, none⟩)), vIs (.slice A1 2 d1), vArr w9.heap.size 2 #[vi 0, vi 1], vIs (.bool true), vIs (.bool true), vIs (.bool true), vIs (vi 755), vIs (.bool true), vIs (.bool true), vIs (.bool true), vIs (vi 70), vIs (.bool true), vIs (.bool true), vIs (.bool true), vIs (.slice A2 2 d2), vArr w9.heap.size 2 #[vi 0, vi 1], vIs (.bool true), vIs (.bool true), vIs (.bool true), vIs (.slice A3 3 d3), vArr w9.heap.size 3 #[vi 0, vi 1, vi 2], vIs (.bool true), vIs (.bool true)]) ⟨trivial, trivial, trivial, (fun _ _ h => h), (fun _ _ h => h), trivial, trivial, (fun _ _ h => h), (fun _ _ h => h), trivial, trivial, (fun _ _ h => h), (fun _ _ h => h), trivial, trivial, (fun _ _ h => h), (fun _ _ h => h), (fun _ _ h => h), trivial, trivial, (fun _ _ h => h), (fun _ _ h => h), (fun _ _ h => h), trivial, trivial, (fun _ _ h => h), (fun _ _ h => h), (fun _ _ h => h), (fun _ _ h => h), trivial, trivial, (fun _ _ h => h), (fun _ _ h => h), trivial, trivial, (fun _ _ h => h), (fun _ _ h => h), trivial, trivial, (fun _ _ h => h), (fun _ _ h => h), (fun _ _ h => h), trivial, trivial, (fun _ _ h => h), (fun _ _ h => h), (fun _ _ h => h), trivial, trivial⟩ (fun h k => newer_trans h k) (pickD_stable _ ⟨vIs_st, vIs_st, vIs_st, vIs_st, vIs_st, vIs_st, vIs_st, vIs_st, vIs_st, vIs_st, vIs_st, vIs_st, vIs_st, vIs_st, vIs_st, vIs_st, vIs_st, vIs_st, vIs_st, vIs_st, vIs_st, vIs_st, vIs_st, vIs_st, vIs_st, vIs_st, vIs_st, vArr_st, vIs_st, vIs_st, vIs_st, vIs_st, vIs_st, vIs_st, vIs_st, vIs_st, vIs_st, vIs_st, vIs_st, vIs_st, vArr_st, vIs_st, vIs_st, vIs_st, vIs_st, vArr_st, vIs_st, vIs_st, trivial⟩) (Below.refl _ w9).drew (Below.refl _ _) ?_ ?_)
 ·refine ⟨?_, ?_, ?_, ?_, ?_, ?_, ?_, ?_, ?_, ?_, ?_, ?_, ?_, ?_, ?_, ?_, ?_, ?_, ?_, ?_, ?_, ?_, ?_, ?_, ?_, ?_, ?_, ?_, ?_, ?_, ?_, ?_, ?_, ?_, ?_, ?_, ?_, ?_, ?_, ?_, ?_, ?_, ?_, ?_, ?_, ?_, ?_, ?_, trivial⟩
  ·exact fun a W hG _ hO _ => kM 2 rfl (hO.slot 2 (by kernel_rfl)) rfl hG
  ·intro a W hG hR hO hp; have h35 : slotOf a 35 = vi 0 := hp.1; refine kY (v := .bool true) hG rfl ?_; simp [slotOf] at h35; simp [execOp, go_sem, h35]
  ·exact fun a W hG _ _ hp => kM 36 rfl hp.1 rfl hG
  ·exact fun a W hG _ hO _ => kM 5 rfl (hO.slot 5 (by kernel_rfl)) rfl hG
  ·intro a W hG hR hO hp; have h38 : slotOf a 38 = vi 0 := hp.1; refine kY (v := .bool true) hG rfl ?_; simp [slotOf] at h38; simp [execOp, go_sem, h38]
  ·intro a W hG hR hO hp; have h37 : slotOf a 37 = .bool true := hp.1; have h39 : slotOf a 39 = .bool true := hp.2.1; refine kY (v := .bool true) hG rfl ?_; simp [slotOf] at h37 h39; simp [execOp, go_sem, h37, h39]
  ·exact fun a W hG _ _ hp => kM 40 rfl hp.1 rfl hG
  ·exact fun a W hG _ hO _ => kM 7 rfl (hO.slot 7 (by kernel_rfl)) rfl hG
  ·intro a W hG hR hO hp; have h42 : slotOf a 42 = vi 0 := hp.1; refine kY (v := .bool true) hG rfl ?_; simp [slotOf] at h42; simp [execOp, go_sem, h42]
  ·intro a W hG hR hO hp; have h41 : slotOf a 41 = .bool true := hp.1; have h43 : slotOf a 43 = .bool true := hp.2.1; refine kY (v := .bool true) hG rfl ?_; simp [slotOf] at h41 h43; simp [execOp, go_sem, h41, h43]
  ·exact fun a W hG _ _ hp => kM 44 rfl hp.1 rfl hG
  ·exact fun a W hG _ hO _ => kM 10 rfl (hO.slot 10 (by kernel_rfl)) rfl hG
  ·intro a W hG hR hO hp; have h46 : slotOf a 46 = vi 0 := hp.1; refine kY (v := .bool true) hG rfl ?_; simp [slotOf] at h46; simp [execOp, go_sem, h46]
  ·intro a W hG hR hO hp; have h45 : slotOf a 45 = .bool true := hp.1; have h47 : slotOf a 47 = .bool true := hp.2.1; refine kY (v := .bool true) hG rfl ?_; simp [slotOf] at h45 h47; simp [execOp, go_sem, h45, h47]
  ·exact fun a W hG _ _ hp => kM 48 rfl hp.1 rfl hG
  ·intro a W hG hR hO hp; have h1 := hO.slot 1 (by kernel_rfl); have c0 := keep_cell q0 hG; have c1 := keep_cell q1 hG; refine kY (v := .agg #[vi 785, vi 1200]) hG rfl ?_; simp [slotOf] at h1; simp [execOp, go_sem, h1, c0, c1]
  ·intro a W hG hR hO hp
   refine wp_enters (f := 56) (args := #[vi 785, vi 1200]) ?_ ((span56_any 785 1200 W).mono ?_)
   ·skip
    simp [go_sem]
   ·rintro e w' ⟨rfl, hb⟩
    exact ⟨_, rfl, _, rfl, rfl, hb, below_next hG hb⟩
  ·intro a W hG hR hO hp; have h50 : slotOf a 50 = .agg #[vi 785, vi 1200] := hp.1; have h51 : slotOf a 51 = .agg #[vi 785, vi 1200] := hp.2.1; refine wp_yields (v := .bool true) ?_ ⟨_, rfl, rfl, Below.refl _ _, hG⟩; exact exec_eq31 rfl ((eval_slot a 50).trans h50) ((eval_slot a 51).trans h51)
  ·intro a W hG hR hO hp; have h49 : slotOf a 49 = .bool true := hp.1; have h52 : slotOf a 52 = .bool true := hp.2.1; refine kY (v := .bool true) hG rfl ?_; simp [slotOf] at h49 h52; simp [execOp, go_sem, h49, h52]
  ·exact fun a W hG _ _ hp => kM 53 rfl hp.1 rfl hG
  ·intro a W hG hR hO hp; have h3 := hO.slot 3 (by kernel_rfl); refine kY (v := .pointer (some ⟨ub, 0, none⟩)) hG rfl ?_; simp [slotOf] at h3; simp [execOp, go_sem, h3]
  ·intro a W hG hR hO hp; have h55 : slotOf a 55 = .pointer (some ⟨ub, 0, none⟩) := hp.1; have c0 := keep_cell u0 hG; refine kY (v := vi 0) hG rfl ?_; simp [slotOf] at h55; simp [execOp, go_sem, h55, c0]
  ·intro a W hG hR hO hp; have h56 : slotOf a 56 = vi 0 := hp.1; refine kY (v := .bool true) hG rfl ?_; simp [slotOf] at h56; simp [execOp, go_sem, h56]
  ·intro a W hG hR hO hp; have h54 : slotOf a 54 = .bool true := hp.1; have h57 : slotOf a 57 = .bool true := hp.2.1; refine kY (v := .bool true) hG rfl ?_; simp [slotOf] at h54 h57; simp [execOp, go_sem, h54, h57]
  ·exact fun a W hG _ _ hp => kM 58 rfl hp.1 rfl hG
  ·intro a W hG hR hO hp; have h3 := hO.slot 3 (by kernel_rfl); refine kY (v := .pointer (some ⟨ub, 1, none⟩)) hG rfl ?_; simp [slotOf] at h3; simp [execOp, go_sem, h3]
  ·intro a W hG hR hO hp; have h60 : slotOf a 60 = .pointer (some ⟨ub, 1, none⟩) := hp.1; have c0 := keep_cell u1 hG; refine kY (v := .slice A1 2 d1) hG rfl ?_; simp [slotOf] at h60; simp [execOp, go_sem, h60, c0]
  ·intro a W hG hR hO hp; refine wp_makes (v := .slice (some ⟨W.heap.size, 0, none⟩) 2 2) (W' := W.alloc (.cells #[vi 0, vi 1] 3)) ?_ ⟨_, rfl, ⟨_, rfl, hG.size, Whole.made _ _ _⟩, newer_allocH _ _, hG.alloc hG.size _⟩; simp [execOp, go_sem]
  ·intro a W hG hR hO hp
   have h61 : slotOf a 61 = .slice A1 2 d1 := hp.1
   have h62 := hp.2.1
   obtain ⟨nb, h62, hnb, hW⟩ := h62
   refine wp_enters (f := 36) (args := #[.slice A1 2 d1, .slice (some ⟨nb, 0, none⟩) 2 2]) ?_ ((lawInts [0, 1] [0, 1] A1 (some ⟨nb, 0, none⟩) d1 2 W (by simp) (by simp) ((HR.out.1.below hG).more hG.size) (row_of_whole (enc := intL) (s := 1) (fun _ => rfl) hW rfl)).mono ?_)
   ·simp [slotOf] at h61 h62
    simp [go_sem, h61, h62]
   ·rintro e w' ⟨rfl, hb⟩
    exact ⟨_, rfl, _, rfl, rfl, hb, below_next hG hb⟩
  ·intro a W hG hR hO hp; have h59 : slotOf a 59 = .bool true := hp.1; have h63 : slotOf a 63 = .bool true := hp.2.1; refine kY (v := .bool true) hG rfl ?_; simp [slotOf] at h59 h63; simp [execOp, go_sem, h59, h63]
  ·exact fun a W hG _ _ hp => kM 64 rfl hp.1 rfl hG
  ·exact fun a W hG _ hO _ => kM 4 rfl (hO.slot 4 (by kernel_rfl)) rfl hG
  ·intro a W hG hR hO hp; have h66 : slotOf a 66 = vi 755 := hp.1; refine kY (v := .bool true) hG rfl ?_; simp [slotOf] at h66; simp [execOp, go_sem, h66]
  ·intro a W hG hR hO hp; have h65 : slotOf a 65 = .bool true := hp.1; have h67 : slotOf a 67 = .bool true := hp.2.1; refine kY (v := .bool true) hG rfl ?_; simp [slotOf] at h65 h67; simp [execOp, go_sem, h65, h67]
  ·exact fun a W hG _ _ hp => kM 68 rfl hp.1 rfl hG
  ·exact fun a W hG _ hO _ => kM 6 rfl (hO.slot 6 (by kernel_rfl)) rfl hG
  ·intro a W hG hR hO hp; have h70 : slotOf a 70 = vi 70 := hp.1; refine kY (v := .bool true) hG rfl ?_; simp [slotOf] at h70; simp [execOp, go_sem, h70]
  ·intro a W hG hR hO hp; have h69 : slotOf a 69 = .bool true := hp.1; have h71 : slotOf a 71 = .bool true := hp.2.1; refine kY (v := .bool true) hG rfl ?_; simp [slotOf] at h69 h71; simp [execOp, go_sem, h69, h71]
  ·exact fun a W hG _ _ hp => kM 72 rfl hp.1 rfl hG
  ·exact fun a W hG _ hO _ => kM 8 rfl (hO.slot 8 (by kernel_rfl)) rfl hG
  ·intro a W hG hR hO hp; refine wp_makes (v := .slice (some ⟨W.heap.size, 0, none⟩) 2 2) (W' := W.alloc (.cells #[vi 0, vi 1] 3)) ?_ ⟨_, rfl, ⟨_, rfl, hG.size, Whole.made _ _ _⟩, newer_allocH _ _, hG.alloc hG.size _⟩; simp [execOp, go_sem]
  ·intro a W hG hR hO hp
   have h74 : slotOf a 74 = .slice A2 2 d2 := hp.1
   have h75 := hp.2.1
   obtain ⟨nb, h75, hnb, hW⟩ := h75
   refine wp_enters (f := 36) (args := #[.slice A2 2 d2, .slice (some ⟨nb, 0, none⟩) 2 2]) ?_ ((lawInts [0, 1] [0, 1] A2 (some ⟨nb, 0, none⟩) d2 2 W (by simp) (by simp) ((HR.out.2.1.below hG).more hG.size) (row_of_whole (enc := intL) (s := 1) (fun _ => rfl) hW rfl)).mono ?_)
   ·simp [slotOf] at h74 h75
    simp [go_sem, h74, h75]
   ·rintro e w' ⟨rfl, hb⟩
    exact ⟨_, rfl, _, rfl, rfl, hb, below_next hG hb⟩
  ·intro a W hG hR hO hp; have h73 : slotOf a 73 = .bool true := hp.1; have h76 : slotOf a 76 = .bool true := hp.2.1; refine kY (v := .bool true) hG rfl ?_; simp [slotOf] at h73 h76; simp [execOp, go_sem, h73, h76]
  ·exact fun a W hG _ _ hp => kM 77 rfl hp.1 rfl hG
  ·exact fun a W hG _ hO _ => kM 9 rfl (hO.slot 9 (by kernel_rfl)) rfl hG
  ·intro a W hG hR hO hp; refine wp_makes (v := .slice (some ⟨W.heap.size, 0, none⟩) 3 3) (W' := W.alloc (.cells #[vi 0, vi 1, vi 2] 3)) ?_ ⟨_, rfl, ⟨_, rfl, hG.size, Whole.made _ _ _⟩, newer_allocH _ _, hG.alloc hG.size _⟩; simp [execOp, go_sem]
  ·intro a W hG hR hO hp
   have h79 : slotOf a 79 = .slice A3 3 d3 := hp.1
   have h80 := hp.2.1
   obtain ⟨nb, h80, hnb, hW⟩ := h80
   refine wp_enters (f := 36) (args := #[.slice A3 3 d3, .slice (some ⟨nb, 0, none⟩) 3 3]) ?_ ((lawInts [0, 1, 2] [0, 1, 2] A3 (some ⟨nb, 0, none⟩) d3 3 W (by simp) (by simp) ((HR.out.2.2.below hG).more hG.size) (row_of_whole (enc := intL) (s := 1) (fun _ => rfl) hW rfl)).mono ?_)
   ·simp [slotOf] at h79 h80
    simp [go_sem, h79, h80]
   ·rintro e w' ⟨rfl, hb⟩
    exact ⟨_, rfl, _, rfl, rfl, hb, below_next hG hb⟩
  ·intro a W hG hR hO hp; have h78 : slotOf a 78 = .bool true := hp.1; have h81 : slotOf a 81 = .bool true := hp.2.1; refine kY (v := .bool true) hG rfl ?_; simp [slotOf] at h78 h81; simp [execOp, go_sem, h78, h81]
 ·intro wz hG hR
  rintro _ rfl _ rfl _ rfl _ rfl _ rfl _ rfl _ rfl _ rfl _ rfl _ rfl _ rfl _ rfl _ rfl _ rfl _ rfl _ rfl _ rfl _ rfl _ rfl _ rfl _ rfl _ rfl _ rfl _ rfl _ rfl _ rfl _ rfl _ hv62 _ rfl _ rfl _ rfl _ rfl _ rfl _ rfl _ rfl _ rfl _ rfl _ rfl _ rfl _ rfl _ hv75 _ rfl _ rfl _ rfl _ rfl _ hv80 _ rfl _ rfl
  change wpList _ _ _ _ _ _
  simp only [Act.put, List.setIfInBounds_toArray, List.set_cons_zero, List.set_cons_succ, List.drop_succ_cons, List.drop_zero]
  have HE := Lib.hid (newer_trans H9.out.1 hG)
  clear hG hR q0 q1 u0 u1
  go_wp2_with fail
  go_ret
  exact ⟨rfl, HE.out⟩
end

section
open Go.ChangeShapes Go.WideShapes Go.ChangeAt Go.RowKit Go.Deep
theorem Try.own : ownKnob Try.prog.godebug = none := by kernel_rfl
section
variable {H : Type} {enc : TypeId × Value -> H} {w : World} {base : Nat} {spare : Nat -> Bool} {held : Bool} {fuel : Nat} {cs : List Value} {x : DataW H × List MemPlace}
@[go_sem] theorem run_field42 (a b : Value) (w : World) : Sem.run Try.prog (Instr.field 42 (.agg #[a, b]) 0) w = .ok a w := by
 simp [Instr.field, asAgg, part, go_sem]
end
end

section
open Go.RowKit Go.Shelf Go.Deep
structure BhJ (s : Sm) (f : Int) (t : Option Bool) (A : Option Addr) (c : Nat) (l : List Int) (b nb bb lb D : Nat) (n : Int) (r : Loop) (w W : World) : Prop where
 nw : newer w W
 sl : Whole W (w.heap.size + 1) 25 #[.slice A l.length c]
 nx : Whole W nb 3 #[vi n]
 bx : Whole W bb 3 #[vi b]
 lx : Whole W lb 115 (lkC s f t)
 df : W.heap[D]? = some (.deferred (some []))
 lo : W.heap[D + 1]? = some (.loop r)
 so : w.heap.size + 1 < nb /\ nb < lb /\ lb < bb /\ bb < D
section
variable {s : Sm} {f : Int} {t : Option Bool} {A : Option Addr} {c : Nat} {l : List Int} {b nb bb lb D : Nat} {n : Int} {r : Loop} {w W W' : World}
theorem BhJ.next (h : BhJ s f t A c l b nb bb lb D n r w W) (hb : newer W W') : BhJ s f t A c l b nb bb lb D n r w W' :=
 ⟨newer_trans h.nw hb, h.sl.below hb h.sl.lt, h.nx.below hb h.nx.lt, h.bx.below hb h.bx.lt, h.lx.below hb h.lx.lt, (hb.block _ (Array.getElem?_eq_some_iff.1 h.df).1).trans h.df, (hb.block _ (Array.getElem?_eq_some_iff.1 h.lo).1).trans h.lo, h.so⟩
theorem newer_put {w W : World} (h : newer w W) {D : Nat} (hD : w.heap.size <= D) (o : Obj) : newer w (W.putObj D o) := below_grown (grown_put (grown_of_newer h none) hD o) (fun q e => by cases e) (Nat.le_refl _)
theorem BhJ.put (h : BhJ s f t A c l b nb bb lb D n r w W) (r' : Loop) : BhJ s f t A c l b nb bb lb D n r' w (W.putObj (D + 1) (.loop r')) := by
 have h3 := h.so
 have hD := (Array.getElem?_eq_some_iff.1 h.lo).1
 exact ⟨newer_put h.nw (by omega) _, h.sl.put (by omega) _, h.nx.put (by omega) _, h.bx.put (by omega) _, h.lx.put (by omega) _, (World.putObj_heap_other (by omega)).trans h.df, World.putObj_heap_same hD, h.so⟩
theorem BhJ.set (h : BhJ s f t A c l b nb bb lb D n r w W) (v : Int) : BhJ s f t A c l b nb bb lb D v r w (W.setCell ⟨nb, 0, none⟩ (vi v)) := by
 have h3 := h.so
 have hg : W.grownBy (W.setCell ⟨nb, 0, none⟩ (vi v)) (some nb) := grown_set (p := ⟨nb, 0, none⟩) (grown_refl W (some nb)) (.inl rfl) _
 have ne : ∀ {k : Nat}, k ≠ nb -> some k ≠ some nb := fun h e => h (by injection e)
 exact ⟨h.nw.setCell (p := ⟨nb, 0, none⟩) (by show w.heap.size <= nb; omega) _, h.sl.grown hg (ne (by omega)), h.nx.set 0 (vi v), h.bx.grown hg (ne (by omega)), h.lx.grown hg (ne (by omega)), (hg.block _ (Array.getElem?_eq_some_iff.1 h.df).1 (ne (by omega))).trans h.df, (hg.block _ (Array.getElem?_eq_some_iff.1 h.lo).1 (ne (by omega))).trans h.lo, h.so⟩
end
def vTwoN (B : Nat) (x y : Int) (v : Value) (W : World) : Prop := ∃ q, v = .slice (some ⟨q, 0, none⟩) 2 2 /\ B <= q /\ Whole W q 3 #[vi x, vi y]
theorem vTwoN_st {B : Nat} {x y : Int} : ∀ v W W', vTwoN B x y v W -> newer W W' -> vTwoN B x y v W' := fun _ _ _ ⟨q, h1, h2, h4⟩ hb => ⟨q, h1, h2, h4.below hb h4.lt⟩
attribute [local go_sem] Oper.semAt_some
set_option maxRecDepth 100000 in
set_option maxHeartbeats 1000000 in
theorem behind_any (s : Sm) (f : Int) (t : Option Bool) (l : List Int) (A : Option Addr) (c b : Nat) (w : World) (hok : SmOk s w) (hs : SdOk s.sd) (hb : b < s.sd.n) (hl : l.length = s.sd.n) (hr : Row intL 1 w w.heap.size A l) :
  Calls Try.prog 82 #[lkV s f t, .slice A l.length c, vi b] w fun e w' => e = .returned (vi (behindN bigN s.sd.n (iAt l) b)) /\ newer w w' := by
 have HOK := Lib.hid (And.intro hok hr)
 have hcl := hs.cols
 rw [sd_len] at hcl
 obtain ⟨x, hx⟩ := get_of_lt (l := s.cs) (k := 0) (by omega)
 have hxn : x.beds.length = s.sd.n := (sd_n hx).symm
 have HX := Lib.hid (And.intro hx hxn)
 have HN5 := Lib.hid hs.beds
 have HL := Lib.hid hl
 have HF : Hid (newer w (((w.alloc (.cells (lkC s f t) 115)).alloc (.cells #[.slice A l.length c] 25)).alloc (.cells #[vi bigN] 3)) /\ Whole (((w.alloc (.cells (lkC s f t) 115)).alloc (.cells #[.slice A l.length c] 25)).alloc (.cells #[vi bigN] 3)) w.heap.size 115 (lkC s f t) /\ Whole (((w.alloc (.cells (lkC s f t) 115)).alloc (.cells #[.slice A l.length c] 25)).alloc (.cells #[vi bigN] 3)) (w.heap.size + 1) 25 #[.slice A l.length c] /\ Whole (((w.alloc (.cells (lkC s f t) 115)).alloc (.cells #[.slice A l.length c] 25)).alloc (.cells #[vi bigN] 3)) (w.heap.size + 1 + 1) 3 #[vi bigN]) := Lib.hid (by
  have e1 := newer_allocH w (.cells (lkC s f t) 115)
  have e2 := newer_allocH (w.alloc (.cells (lkC s f t) 115)) (.cells #[.slice A l.length c] 25)
  have e3 := newer_allocH ((w.alloc (.cells (lkC s f t) 115)).alloc (.cells #[.slice A l.length c] 25)) (.cells #[vi bigN] 3)
  have a1 := Whole.made w 115 (lkC s f t)
  have a2 := Whole.made (w.alloc (.cells (lkC s f t) 115)) 25 #[.slice A l.length c]
  have a3 := Whole.made ((w.alloc (.cells (lkC s f t) 115)).alloc (.cells #[.slice A l.length c] 25)) 3 #[vi bigN]
  rw [World.size_alloc] at a2
  rw [World.size_alloc, World.size_alloc] at a3
  exact ⟨newer_trans (newer_trans e1 e2) e3, (a1.below e2 a1.lt).below e3 (by simp; omega), a2.below e3 a2.lt, a3⟩)
 clear hok hs hl hr hx hxn hcl
 refine callsIn_wide.1 (callsIn_of_wp_marks (n := 9) Try.func82 rfl trivial ?_ rfl)
 simp only [Try.ntmps82, List.size_toArray, List.length_cons, List.length_nil, Nat.reduceAdd, Nat.reduceSub, Array.replicate_succ, Array.replicate_zero, List.push_toArray, List.append_toArray, List.nil_append, List.cons_append]
 refine wpIn_wide.2 ?_
 go_upto_region 2 with fail
 refine genQ (fun X => newer w X /\ Whole X w.heap.size 115 (lkC s f t) /\ Whole X (w.heap.size + 1) 25 #[.slice A l.length c] /\ Whole X (w.heap.size + 1 + 1) 3 #[vi bigN]) HF.out ?_
 clear HF
 rintro w2 ⟨p1, p2, p3, p4⟩
 have l0 := p2.at 0 (v := .slice s.a s.cs.length s.c) rfl
 have l1 := p2.at 1 (v := vi s.least) rfl
 have l2 := p2.at 2 (v := vi f) rfl
 have l3 := p2.at 3 (v := .func (.func (trF t)) #[] #[]) rfl
 have H2 := Lib.hid (And.intro p1 (And.intro p2 (And.intro p3 p4)))
 clear p1 p2 p3 p4
 go_wp2_with fail
 refine (next_any s f t b _).mono ?_
 rintro e w6 ⟨rfl, hw6⟩
 have HX6 : Hid (newer w w6 /\ Whole w6 (w.heap.size + 1) 25 #[.slice A l.length c] /\ Whole w6 (w.heap.size + 1 + 1) 3 #[vi bigN] /\ Whole w6 (w2.heap.size + 1) 3 #[vi b] /\ Whole w6 w2.heap.size 115 (lkC s f t) /\ w.heap.size + 1 + 1 < w2.heap.size) := Lib.hid (by
  have e1 : newer w2 (w2.alloc (.cells (lkC s f t) 115)) := newer_allocH _ _
  have e2 : newer (w2.alloc (.cells (lkC s f t) 115)) w6 := hw6 ▸ newer_allocH _ _
  have e3 := newer_trans e1 e2
  obtain ⟨a1, a2, a3, a4⟩ := H2.out
  refine ⟨newer_trans a1 e3, a3.below e3 a3.lt, a4.below e3 a4.lt, ?_, ?_, a4.lt⟩
  ·rw [<- hw6]
   have e5 := Whole.made (w2.alloc (.cells (lkC s f t) 115)) 3 #[vi b]
   rw [World.size_alloc] at e5
   exact e5
  ·have e4 := Whole.made w2 115 (lkC s f t)
   exact e4.below e2 e4.lt)
 obtain ⟨lb, hlb⟩ : ∃ lb, lb = w2.heap.size := ⟨_, rfl⟩
 rw [<- hlb] at HX6 ⊢
 obtain ⟨nb, hnb⟩ : ∃ nb, nb = w.heap.size + 1 + 1 := ⟨_, rfl⟩
 have HNB := Lib.hid hnb
 rw [<- hnb] at HX6 ⊢
 clear hlb hnb hw6 H2 l0 l1 l2 l3
 go_wp2_with fail
 refine (wpIn_wide (n := 9)).1 (range_law (gf := 115) (lb := #[.pointer (some ⟨lb + 1, 0, none⟩), .pointer (some ⟨lb, 0, none⟩)]) rfl (enters_of Try.func115 (by kernel_rfl) rfl) ?_)
 intro r0 r1 r2 r3 r4 r5 r6
 refine (callsIn_wide.1 (next_in 8 (w6.heap.size + 1) (lb + 1) lb s f t x b HX.out.1 (by rw [HX.out.2]; exact hb) (by rw [HX.out.2]; have := HN5.out; omega) (fun k W => BhJ s f t A c l b nb (lb + 1) lb w6.heap.size (minL bigN (((nearL s.sd.n b).take k).map (iAt l))) r0 w W) ?hJ ?hN ?hY _ ?h0)).mono ?_
 case hJ => exact fun k W hj => ⟨hj.bx, hj.lx, HOK.out.1.next hj.nw⟩
 case hN => exact fun k W W' hj hb => hj.next hb
 case h0 =>
  have e1 := newer_trans (newer_allocH w6 (.deferred (some []))) (newer_allocH (w6.alloc (.deferred (some []))) (.loop r0))
  obtain ⟨a1, a2, a3, a5, a6, a7⟩ := HX6.out
  have b3 := HNB.out
  have b4 := a5.lt
  refine ⟨newer_trans a1 e1, a2.below e1 a2.lt, a3.below e1 a3.lt, a5.below e1 a5.lt, a6.below e1 a6.lt, ?_, ?_, by omega⟩
  ·simp only [heap_if, World.size_alloc]
   repeat rw [if_neg (by omega)]
   rfl
  ·simp only [heap_if, World.size_alloc]
   repeat rw [if_neg (by omega)]
   rfl
 case hY =>
  intro k W hk hj
  rw [show ((loN b : Nat) : Int) + (k : Int) = ((loN b + k : Nat) : Int) from rfl]
  rw [HX.out.2] at hk
  rw [near_take s.sd.n b k _ hk]
  have hkn : loN b + k < s.sd.n := by
   unfold cntN at hk
   unfold loN
   omega
  have hkll : loN b + k < l.length := by rw [HL.out]; exact hkn
  obtain ⟨rv, hrv⟩ : ∃ rv, rv = iAt l (loN b + k) := ⟨_, rfl⟩
  obtain ⟨ab, ao, eA, c0⟩ := row1k ((HOK.out.2.below hj.nw).more hj.nw.size) hkll
  rw [<- hrv] at c0 ⊢
  obtain ⟨nk, hnk⟩ : ∃ nk, nk = minL bigN (((nearL s.sd.n b).take k).map (iAt l)) := ⟨_, rfl⟩
  rw [<- hnk] at hj ⊢
  have HCC : Hid (∀ W', newer w W' -> W'.cell? ⟨ab, ao + (loN b + k), none⟩ = some (vi rv)) := Lib.hid (fun W' hW' => by
   obtain ⟨ab2, ao2, eA2, c2⟩ := row1k ((HOK.out.2.below hW').more hW'.size) hkll
   rw [eA] at eA2
   injection eA2 with eA2
   injection eA2 with e1 e2
   subst e1
   subst e2
   rw [<- hrv] at c2
   exact c2)
  have HEA := Lib.hid eA
  obtain ⟨z, hz⟩ : ∃ z, z = loN b + k := ⟨_, rfl⟩
  rw [<- hz] at hkn hkll HCC ⊢
  clear hrv hnk c0 eA hz hkn
  refine yield_round (r := r0) hj.lo r1 r2 (by rw [r4]; rfl) ?_
  rw [r3, r4, r5, r6]
  simp only [List.zip_toArray, List.zip_cons_cons, List.zip_nil_right, List.foldl_toArray, List.foldl_cons, List.foldl_nil, List.setIfInBounds_toArray, List.set_cons_zero, List.set_cons_succ]
  gi_wp2_with fail
  refine ⟨hj.lo, ?_⟩
  have hj5 := hj.put (busyOf r0)
  obtain ⟨w7, hw7⟩ : ∃ w7, w7 = W.putObj (w6.heap.size + 1) (.loop (busyOf r0)) := ⟨_, rfl⟩
  rw [<- hw7] at hj5 ⊢
  clear hw7 hj W
  obtain ⟨bb, hbb⟩ : ∃ bb, bb = lb + 1 := ⟨_, rfl⟩
  obtain ⟨D, hD⟩ : ∃ D, D = w6.heap.size := ⟨_, rfl⟩
  rw [<- hbb, <- hD] at hj5 ⊢
  have HJ := Lib.hid hj5
  have n0 := hj5.nx.at 0 (v := vi nk) rfl
  have s0 := hj5.sl.at 0 (v := .slice A l.length c) rfl
  have c0 := HCC.out w7 hj5.nw
  rw [HEA.out] at s0
  have hkl : (z : Int) < l.length := by omega
  clear hj5 r1 r2 r3 r4 r5 r6 hbb hD HX6
  gi_wp2_with fail
  refine round_words (by kernel_rfl) (by kernel_rfl) (fun _ _ h => h) (region_told 7 (by kernel_rfl) (by kernel_rfl) (fun W => Below w7.heap.size w7 W) newer (pickD [vIs (vi nk), vIs (.slice (some ⟨ab, ao, none⟩) l.length c), vIs (vi z), vIs (.pointer (some ⟨ab, ao + z, none⟩)), vIs (vi rv), vTwoN w7.heap.size nk rv, vIs (vi (mnI nk rv))]) (fun h k => newer_trans h k) (pickD_stable _ ⟨vIs_st, vIs_st, vIs_st, vIs_st, vIs_st, vTwoN_st, vIs_st, trivial⟩) (Below.refl _ w7).drew (Below.refl _ _) ?_ ?_)
  ·refine ⟨?_, ?_, ?_, ?_, ?_, ?_, ?_, trivial⟩
   ·intro a W hG hR hO hp; have h7 := hO.slot 7 (by kernel_rfl); have c0 := keep_cell n0 hG; refine kY (v := vi nk) hG rfl ?_; simp [slotOf] at h7; simp [execOp, go_sem, h7, c0]
   ·intro a W hG hR hO hp; have h4 := hO.slot 4 (by kernel_rfl); have c0 := keep_cell s0 hG; refine kY (v := .slice (some ⟨ab, ao, none⟩) l.length c) hG rfl ?_; simp [slotOf] at h4; simp [execOp, go_sem, h4, c0]
   ·exact fun a W hG _ hO _ => kM 8 rfl (hO.slot 8 (by kernel_rfl)) rfl hG
   ·intro a W hG hR hO hp; have h14 : slotOf a 14 = .slice (some ⟨ab, ao, none⟩) l.length c := hp.1; have h15 : slotOf a 15 = vi z := hp.2.1; refine kY (v := .pointer (some ⟨ab, ao + z, none⟩)) hG rfl ?_; simp [slotOf] at h14 h15; simp [execOp, go_sem, h14, h15, hkl]
   ·intro a W hG hR hO hp; have h16 : slotOf a 16 = .pointer (some ⟨ab, ao + z, none⟩) := hp.1; have c0 := keep_cell c0 hG; refine kY (v := vi rv) hG rfl ?_; simp [slotOf] at h16; simp [execOp, go_sem, h16, c0]
   ·intro a W hG hR hO hp; have h13 : slotOf a 13 = vi nk := hp.1; have h17 : slotOf a 17 = vi rv := hp.2.1; refine wp_makes (v := .slice (some ⟨W.heap.size, 0, none⟩) 2 2) (W' := W.alloc (.cells #[vi nk, vi rv] 3)) ?_ ⟨_, rfl, ⟨W.heap.size, rfl, hG.size, Whole.made _ _ _⟩, newer_allocH _ _, below_next hG (newer_allocH _ _)⟩; simp [slotOf] at h13 h17; simp [execOp, go_sem, h13, h17]
   ·intro a W hG hR hO hp
    have h18 := hp.1
    obtain ⟨q, h18, hq1, hq3⟩ := h18
    refine wp_enters (f := 83) (args := #[.slice (some ⟨q, 0, none⟩) 2 2]) ?_ ((least2_any nk rv q 2 W hq3).mono ?_)
    ·simp [slotOf] at h18
     simp [go_sem, h18]
    ·rintro e w' ⟨rfl, rfl⟩
     exact ⟨_, rfl, _, rfl, rfl, Below.refl _ _, hG⟩
  ·intro wz hG hR
   rintro _ rfl _ rfl _ rfl _ rfl _ rfl _ - _ rfl
   change wpList _ _ _ _ _ _
   simp only [Act.put, List.setIfInBounds_toArray, List.set_cons_zero, List.set_cons_succ, List.drop_succ_cons, List.drop_zero]
   have hjz := HJ.out.next hG
   have n0 := hjz.nx.at 0 (v := vi nk) rfl
   have nf := hjz.nx.free 0
   have hS := hjz.set (mnI nk rv)
   have HX8 := Lib.hid (And.intro hS.lo (hS.put r0))
   clear hS hG hR hjz
   go_wp2_with fail
   refine onlyN_intro ?_
   gi_wp2_with fail
   exact ⟨HX8.out.1, rfl, HX8.out.2⟩
 ·rintro e W ⟨⟨v, rfl⟩, hj⟩
  refine ⟨⟨_, rfl⟩, .inl ⟨hj.lo, ?_⟩⟩
  rw [HX.out.2, near_all] at hj
  obtain ⟨nz, hnz⟩ : ∃ nz, nz = minL bigN ((nearL s.sd.n b).map (iAt l)) := ⟨_, rfl⟩
  rw [<- hnz] at hj
  have HV := Lib.hid (show nz = behindN bigN s.sd.n (iAt l) b from hnz)
  clear hnz
  have hj2 := hj.put (overOf r0)
  have HJ := Lib.hid hj2
  have n0 := hj2.nx.at 0 (v := vi nz) rfl
  clear hj hj2 r1 r2 r3 r4 r5 r6 HX6
  go_wp2_with fail
  refine ⟨by simp, .inl ⟨_, _, rfl, run_takeDeferred HJ.out.df, ?_⟩⟩
  refine ⟨_, by simp [results, Try.results82, go_sem]; rfl, by rw [HV.out], newer_put HJ.out.nw (by have := HJ.out.so; omega) _⟩
end

section
open Go.RowKit Go.Shelf Go.Deep
structure Ln where
 l : List Int
 a : Option Addr
 c : Nat
structure Rw where
 ls : List Ln
 a : Option Addr
 c : Nat
abbrev lnL (x : Ln) : List Value := [.slice x.a x.l.length x.c]
abbrev lnV (x : Ln) : Value := .slice x.a x.l.length x.c
abbrev rwL (x : Rw) : List Value := [.slice x.a x.ls.length x.c]
abbrev rwV (x : Rw) : Value := .slice x.a x.ls.length x.c
def Rw.d (r : Rw) : List (List Int) := r.ls.map (·.l)
structure TbOk (ts : List Rw) (A : Option Addr) (W : World) : Prop where
 rows : Row rwL 1 W W.heap.size A ts
 lss : ∀ r ∈ ts, Row lnL 1 W W.heap.size r.a r.ls
 nums : ∀ r ∈ ts, ∀ x ∈ r.ls, Row intL 1 W W.heap.size x.a x.l
theorem TbOk.next {ts : List Rw} {A : Option Addr} {W W' : World} (h : TbOk ts A W) (hb : newer W W') : TbOk ts A W' := ⟨(h.rows.below hb).more hb.size, fun r hr => ((h.lss r hr).below hb).more hb.size, fun r hr x hx => ((h.nums r hr x hx).below hb).more hb.size⟩
structure TbFew (ts : List Rw) : Prop where
 rows : ts.length <= 1000
 lss : ∀ r ∈ ts, r.ls.length <= 1000
 nums : ∀ r ∈ ts, ∀ x ∈ r.ls, x.l.length <= 1000
theorem rowLn {w : World} {B : Nat} {A : Option Addr} {l : List Ln} (h : Row lnL 1 w B A l) {k : Nat} {c : Ln} (hk : l[k]? = some c) :
  ∃ b off, A = some ⟨b, off, none⟩ /\ b < B /\ w.cell? ⟨b, off + k, none⟩ = some (.slice c.a c.l.length c.c) := by
 obtain ⟨b, off, e, hb, hc⟩ := h (ne_nil_of_get hk)
 exact ⟨b, off, e, hb, by simpa using hc k c hk 0 _ rfl⟩
theorem rowRw {w : World} {B : Nat} {A : Option Addr} {l : List Rw} (h : Row rwL 1 w B A l) {k : Nat} {c : Rw} (hk : l[k]? = some c) :
  ∃ b off, A = some ⟨b, off, none⟩ /\ b < B /\ w.cell? ⟨b, off + k, none⟩ = some (.slice c.a c.ls.length c.c) := by
 obtain ⟨b, off, e, hb, hc⟩ := h (ne_nil_of_get hk)
 exact ⟨b, off, e, hb, by simpa using hc k c hk 0 _ rfl⟩
theorem rowI {w : World} {B : Nat} {A : Option Addr} {l : List Int} (h : Row intL 1 w B A l) {k : Nat} {c : Int} (hk : l[k]? = some c) :
  ∃ b off, A = some ⟨b, off, none⟩ /\ b < B /\ w.cell? ⟨b, off + k, none⟩ = some (.int .i64 c) := by
 obtain ⟨b, off, e, hb, hc⟩ := h (ne_nil_of_get hk)
 exact ⟨b, off, e, hb, by simpa using hc k c hk 0 _ rfl⟩
def shL (n : Nat) (l : List Int) : Bool := decide (l.length = n) && l.all fun v => inB v (-bigN) bigN
def shR (n cols : Nat) (r : List (List Int)) : Bool := decide (r.length = cols) && r.all (shL n)
def shT (n cols : Nat) (K : Int) (t : List (List (List Int))) : Bool := decide ((t.length : Int) = K) && t.all (shR n cols)
set_option maxHeartbeats 400000 in
theorem notIn_any (x : Int) (rb : Nat) (b : Bool) (w : World) (hr : w.cell? ⟨rb, 0, none⟩ = some (.func (.func 102) #[] #[]))
  (hf : ∀ W, Below w.heap.size w W -> Calls Try.prog 102 #[vi x] W fun e w' => e = .returned (.bool b) /\ Below W.heap.size W w') :
  Calls Try.prog 117 #[vi x, .pointer (some ⟨rb, 0, none⟩)] w fun e w' => e = .returned (.bool (!b)) /\ Below w.heap.size w w' := by
 have HF := Lib.hid hf
 have hlt := World.block_lt_of_cell? w _ hr
 dsimp only at hlt
 clear hf
 go_enter Try.func117, Try.ntmps117
 go_wp2_with (go_at_call 102; refine (HF.out _ (Below.refl _ _)).mono ?_; rintro e w' ⟨rfl, hb⟩)
 go_ret
 exact ⟨rfl, hb⟩
set_option maxHeartbeats 400000 in
theorem idxIn_any (l : List Int) (p : Int -> Bool) (cp rb : Nat) (A : Option Addr) (w : World) (hn : l.length <= 1000) (hrow : Row intL 1 w w.heap.size A l)
  (hf : ∀ c ∈ l, ∀ W, Below w.heap.size w W -> Calls Try.prog 117 #[vi c, .pointer (some ⟨rb, 0, none⟩)] W fun e w' => e = .returned (.bool (p c)) /\ Below W.heap.size W w') :
  Calls Try.prog 124 #[.slice A l.length cp, .func (.func 117) #[] #[.pointer (some ⟨rb, 0, none⟩)]] w fun e w' => e = .returned (.int .i64 (idx p l)) /\ Below w.heap.size w w' := by
 have HF := Lib.hid hf
 clear hf
 obtain ⟨n, hnl⟩ : ∃ n, n = l.length := ⟨_, rfl⟩
 rw [<- hnl] at hn ⊢
 have HN := Lib.hid hnl
 clear hnl
 go_enter Try.func124, Try.ntmps124
 go_wp2
 go_loopw [4, 5, 8] (fun _ _ i wr => ∃ k : Nat, k <= n /\ i = .int .i64 k /\ Below w.heap.size w wr /\ early p l k) (fun _ _ i _ => n - (intOf i).toNat)
 case atStart => exact ⟨0, Nat.zero_le _, rfl, Below.refl _ _, early_zero _ _⟩
 case round =>
  obtain ⟨k, hk, rfl, hbw, he⟩ := hrel
  have HE := Lib.hid he
  clear he
  by_cases hlt : k < n
  ·obtain ⟨c, hc⟩ := get_of_lt (l := l) (k := k) (by have := HN.out; omega)
   obtain ⟨b, off, rfl, hb, h0⟩ := rowI (hrow.below hbw) hc
   have HC := Lib.hid hc
   clear hc
   cases hp : p c
   ·go_wp2_with (go_at_call 117; refine (HF.out c (List.mem_of_getElem? HC.out) _ hbw).mono ?_; rintro e w' ⟨rfl, hb2⟩)
    go_roundw
    case rel => exact ⟨k + 1, by omega, by go_num, below_next hbw hb2, early_succ HE.out HC.out hp⟩
    case measure => simp [intOf]; omega
   ·go_wp2_with (go_at_call 117; refine (HF.out c (List.mem_of_getElem? HC.out) _ hbw).mono ?_; rintro e w' ⟨rfl, hb2⟩)
    go_ret
    exact ⟨ret_int (idx_here p l k c HC.out hp HE.out).symm, below_next hbw hb2⟩
  ·go_wp2_with fail
   go_ret
   have hkn : k = l.length := by have := HN.out; omega
   exact ⟨ret_int (idx_none p l (hkn ▸ HE.out)).symm, hbw⟩
set_option maxHeartbeats 400000 in
theorem containsIn_any (l : List Int) (p : Int -> Bool) (cp rb : Nat) (A : Option Addr) (w : World) (hn : l.length <= 1000) (hrow : Row intL 1 w w.heap.size A l)
  (hf : ∀ c ∈ l, ∀ W, Below w.heap.size w W -> Calls Try.prog 117 #[vi c, .pointer (some ⟨rb, 0, none⟩)] W fun e w' => e = .returned (.bool (p c)) /\ Below W.heap.size W w') :
  Calls Try.prog 116 #[.slice A l.length cp, .func (.func 117) #[] #[.pointer (some ⟨rb, 0, none⟩)]] w fun e w' => e = .returned (.bool (decide (0 <= idx p l))) /\ Below w.heap.size w w' := by
 have HF := Lib.hid hf
 clear hf
 go_enter Try.func116, Try.ntmps116
 go_wp2_with (go_at_call 124; refine (idxIn_any l p cp rb A _ hn hrow HF.out).mono ?_; rintro e w' ⟨rfl, hb2⟩)
 go_ret
 exact ⟨rfl, hb2⟩
set_option maxHeartbeats 400000 in
theorem allIn_any (l : List Int) (p : Int -> Bool) (cp : Nat) (A : Option Addr) (w : World) (hn : l.length <= 1000) (hrow : Row intL 1 w w.heap.size A l)
  (hf : ∀ c ∈ l, ∀ W, Below w.heap.size w W -> Calls Try.prog 102 #[vi c] W fun e w' => e = .returned (.bool (p c)) /\ Below W.heap.size W w') :
  Calls Try.prog 104 #[.slice A l.length cp, .func (.func 102) #[] #[]] w fun e w' => e = .returned (.bool (l.all p)) /\ Below w.heap.size w w' := by
 have hX := containsIn_any l (fun c => !p c) cp w.heap.size A (w.alloc (.cells #[.func (.func 102) #[] #[]] 124)) hn (hrow_ok hrow _) (fun c hc W hW => notIn_any c w.heap.size (p c) W (keep_cell (Whole.at (Whole.made w 124 #[.func (.func 102) #[] #[]]) 0 rfl) hW) fun W' hW' => hf c hc W' (below_next (below_next ((Below.refl _ _).alloc (Nat.le_refl _) _) hW) hW'))
 have HX := Lib.hid hX
 clear hX hf
 go_enter Try.func104, Try.ntmps104
 go_wp2_with (go_at_call 116; refine (HX.out).mono ?_; rintro e w' ⟨rfl, hb2⟩)
 go_ret
 exact ⟨ret_bool (idx_all p l), below_next ((Below.refl _ _).alloc (Nat.le_refl _) _) hb2⟩
set_option maxHeartbeats 400000 in
theorem notLn_any (x : Ln) (rb : Nat) (b : Bool) (w : World) (na nb : Nat) (hr : w.cell? ⟨rb, 0, none⟩ = some (.func (.func 103) #[] #[.pointer (some ⟨na, 0, none⟩), .pointer (some ⟨nb, 0, none⟩)]))
  (hf : ∀ W, Below w.heap.size w W -> Calls Try.prog 103 #[lnV x, .pointer (some ⟨na, 0, none⟩), .pointer (some ⟨nb, 0, none⟩)] W fun e w' => e = .returned (.bool b) /\ Below W.heap.size W w') :
  Calls Try.prog 121 #[lnV x, .pointer (some ⟨rb, 0, none⟩)] w fun e w' => e = .returned (.bool (!b)) /\ Below w.heap.size w w' := by
 have HF := Lib.hid hf
 have hlt := World.block_lt_of_cell? w _ hr
 dsimp only at hlt
 clear hf
 go_enter Try.func121, Try.ntmps121
 go_wp2_with (go_at_call 103; refine (HF.out _ (Below.refl _ _)).mono ?_; rintro e w' ⟨rfl, hb⟩)
 go_ret
 exact ⟨rfl, hb⟩
set_option maxHeartbeats 400000 in
theorem idxLn_any (l : List Ln) (p : Ln -> Bool) (cp rb : Nat) (A : Option Addr) (w : World) (hn : l.length <= 1000) (hrow : Row lnL 1 w w.heap.size A l)
  (hf : ∀ c ∈ l, ∀ W, Below w.heap.size w W -> Calls Try.prog 121 #[lnV c, .pointer (some ⟨rb, 0, none⟩)] W fun e w' => e = .returned (.bool (p c)) /\ Below W.heap.size W w') :
  Calls Try.prog 126 #[.slice A l.length cp, .func (.func 121) #[] #[.pointer (some ⟨rb, 0, none⟩)]] w fun e w' => e = .returned (.int .i64 (idx p l)) /\ Below w.heap.size w w' := by
 have HF := Lib.hid hf
 clear hf
 obtain ⟨n, hnl⟩ : ∃ n, n = l.length := ⟨_, rfl⟩
 rw [<- hnl] at hn ⊢
 have HN := Lib.hid hnl
 clear hnl
 go_enter Try.func126, Try.ntmps126
 go_wp2
 go_loopw [4, 5, 8] (fun _ _ i wr => ∃ k : Nat, k <= n /\ i = .int .i64 k /\ Below w.heap.size w wr /\ early p l k) (fun _ _ i _ => n - (intOf i).toNat)
 case atStart => exact ⟨0, Nat.zero_le _, rfl, Below.refl _ _, early_zero _ _⟩
 case round =>
  obtain ⟨k, hk, rfl, hbw, he⟩ := hrel
  have HE := Lib.hid he
  clear he
  by_cases hlt : k < n
  ·obtain ⟨c, hc⟩ := get_of_lt (l := l) (k := k) (by have := HN.out; omega)
   obtain ⟨b, off, rfl, hb, h0⟩ := rowLn (hrow.below hbw) hc
   have HC := Lib.hid hc
   clear hc
   cases hp : p c
   ·go_wp2_with (go_at_call 121; refine (HF.out c (List.mem_of_getElem? HC.out) _ hbw).mono ?_; rintro e w' ⟨rfl, hb2⟩)
    go_roundw
    case rel => exact ⟨k + 1, by omega, by go_num, below_next hbw hb2, early_succ HE.out HC.out hp⟩
    case measure => simp [intOf]; omega
   ·go_wp2_with (go_at_call 121; refine (HF.out c (List.mem_of_getElem? HC.out) _ hbw).mono ?_; rintro e w' ⟨rfl, hb2⟩)
    go_ret
    exact ⟨ret_int (idx_here p l k c HC.out hp HE.out).symm, below_next hbw hb2⟩
  ·go_wp2_with fail
   go_ret
   have hkn : k = l.length := by have := HN.out; omega
   exact ⟨ret_int (idx_none p l (hkn ▸ HE.out)).symm, hbw⟩
set_option maxHeartbeats 400000 in
theorem containsLn_any (l : List Ln) (p : Ln -> Bool) (cp rb : Nat) (A : Option Addr) (w : World) (hn : l.length <= 1000) (hrow : Row lnL 1 w w.heap.size A l)
  (hf : ∀ c ∈ l, ∀ W, Below w.heap.size w W -> Calls Try.prog 121 #[lnV c, .pointer (some ⟨rb, 0, none⟩)] W fun e w' => e = .returned (.bool (p c)) /\ Below W.heap.size W w') :
  Calls Try.prog 120 #[.slice A l.length cp, .func (.func 121) #[] #[.pointer (some ⟨rb, 0, none⟩)]] w fun e w' => e = .returned (.bool (decide (0 <= idx p l))) /\ Below w.heap.size w w' := by
 have HF := Lib.hid hf
 clear hf
 go_enter Try.func120, Try.ntmps120
 go_wp2_with (go_at_call 126; refine (idxLn_any l p cp rb A _ hn hrow HF.out).mono ?_; rintro e w' ⟨rfl, hb2⟩)
 go_ret
 exact ⟨rfl, hb2⟩
set_option maxHeartbeats 400000 in
theorem allLn_any (l : List Ln) (p : Ln -> Bool) (cp : Nat) (A : Option Addr) (w : World) (na nb : Nat) (hn : l.length <= 1000) (hrow : Row lnL 1 w w.heap.size A l)
  (hf : ∀ c ∈ l, ∀ W, Below w.heap.size w W -> Calls Try.prog 103 #[lnV c, .pointer (some ⟨na, 0, none⟩), .pointer (some ⟨nb, 0, none⟩)] W fun e w' => e = .returned (.bool (p c)) /\ Below W.heap.size W w') :
  Calls Try.prog 107 #[.slice A l.length cp, .func (.func 103) #[] #[.pointer (some ⟨na, 0, none⟩), .pointer (some ⟨nb, 0, none⟩)]] w fun e w' => e = .returned (.bool (l.all p)) /\ Below w.heap.size w w' := by
 have hX := containsLn_any l (fun c => !p c) cp w.heap.size A (w.alloc (.cells #[.func (.func 103) #[] #[.pointer (some ⟨na, 0, none⟩), .pointer (some ⟨nb, 0, none⟩)]] 154)) hn (hrow_ok hrow _) (fun c hc W hW => notLn_any c w.heap.size (p c) W na nb (keep_cell (Whole.at (Whole.made w 154 #[.func (.func 103) #[] #[.pointer (some ⟨na, 0, none⟩), .pointer (some ⟨nb, 0, none⟩)]]) 0 rfl) hW) fun W' hW' => hf c hc W' (below_next (below_next ((Below.refl _ _).alloc (Nat.le_refl _) _) hW) hW'))
 have HX := Lib.hid hX
 clear hX hf
 go_enter Try.func107, Try.ntmps107
 go_wp2_with (go_at_call 120; refine (HX.out).mono ?_; rintro e w' ⟨rfl, hb2⟩)
 go_ret
 exact ⟨ret_bool (idx_all p l), below_next ((Below.refl _ _).alloc (Nat.le_refl _) _) hb2⟩
set_option maxHeartbeats 400000 in
theorem notRw_any (x : Rw) (rb : Nat) (b : Bool) (w : World) (na nb : Nat) (hr : w.cell? ⟨rb, 0, none⟩ = some (.func (.func 106) #[] #[.pointer (some ⟨na, 0, none⟩), .pointer (some ⟨nb, 0, none⟩)]))
  (hf : ∀ W, Below w.heap.size w W -> Calls Try.prog 106 #[rwV x, .pointer (some ⟨na, 0, none⟩), .pointer (some ⟨nb, 0, none⟩)] W fun e w' => e = .returned (.bool b) /\ Below W.heap.size W w') :
  Calls Try.prog 119 #[rwV x, .pointer (some ⟨rb, 0, none⟩)] w fun e w' => e = .returned (.bool (!b)) /\ Below w.heap.size w w' := by
 have HF := Lib.hid hf
 have hlt := World.block_lt_of_cell? w _ hr
 dsimp only at hlt
 clear hf
 go_enter Try.func119, Try.ntmps119
 go_wp2_with (go_at_call 106; refine (HF.out _ (Below.refl _ _)).mono ?_; rintro e w' ⟨rfl, hb⟩)
 go_ret
 exact ⟨rfl, hb⟩
set_option maxHeartbeats 400000 in
theorem idxRw_any (l : List Rw) (p : Rw -> Bool) (cp rb : Nat) (A : Option Addr) (w : World) (hn : l.length <= 1000) (hrow : Row rwL 1 w w.heap.size A l)
  (hf : ∀ c ∈ l, ∀ W, Below w.heap.size w W -> Calls Try.prog 119 #[rwV c, .pointer (some ⟨rb, 0, none⟩)] W fun e w' => e = .returned (.bool (p c)) /\ Below W.heap.size W w') :
  Calls Try.prog 125 #[.slice A l.length cp, .func (.func 119) #[] #[.pointer (some ⟨rb, 0, none⟩)]] w fun e w' => e = .returned (.int .i64 (idx p l)) /\ Below w.heap.size w w' := by
 have HF := Lib.hid hf
 clear hf
 obtain ⟨n, hnl⟩ : ∃ n, n = l.length := ⟨_, rfl⟩
 rw [<- hnl] at hn ⊢
 have HN := Lib.hid hnl
 clear hnl
 go_enter Try.func125, Try.ntmps125
 go_wp2
 go_loopw [4, 5, 8] (fun _ _ i wr => ∃ k : Nat, k <= n /\ i = .int .i64 k /\ Below w.heap.size w wr /\ early p l k) (fun _ _ i _ => n - (intOf i).toNat)
 case atStart => exact ⟨0, Nat.zero_le _, rfl, Below.refl _ _, early_zero _ _⟩
 case round =>
  obtain ⟨k, hk, rfl, hbw, he⟩ := hrel
  have HE := Lib.hid he
  clear he
  by_cases hlt : k < n
  ·obtain ⟨c, hc⟩ := get_of_lt (l := l) (k := k) (by have := HN.out; omega)
   obtain ⟨b, off, rfl, hb, h0⟩ := rowRw (hrow.below hbw) hc
   have HC := Lib.hid hc
   clear hc
   cases hp : p c
   ·go_wp2_with (go_at_call 119; refine (HF.out c (List.mem_of_getElem? HC.out) _ hbw).mono ?_; rintro e w' ⟨rfl, hb2⟩)
    go_roundw
    case rel => exact ⟨k + 1, by omega, by go_num, below_next hbw hb2, early_succ HE.out HC.out hp⟩
    case measure => simp [intOf]; omega
   ·go_wp2_with (go_at_call 119; refine (HF.out c (List.mem_of_getElem? HC.out) _ hbw).mono ?_; rintro e w' ⟨rfl, hb2⟩)
    go_ret
    exact ⟨ret_int (idx_here p l k c HC.out hp HE.out).symm, below_next hbw hb2⟩
  ·go_wp2_with fail
   go_ret
   have hkn : k = l.length := by have := HN.out; omega
   exact ⟨ret_int (idx_none p l (hkn ▸ HE.out)).symm, hbw⟩
set_option maxHeartbeats 400000 in
theorem containsRw_any (l : List Rw) (p : Rw -> Bool) (cp rb : Nat) (A : Option Addr) (w : World) (hn : l.length <= 1000) (hrow : Row rwL 1 w w.heap.size A l)
  (hf : ∀ c ∈ l, ∀ W, Below w.heap.size w W -> Calls Try.prog 119 #[rwV c, .pointer (some ⟨rb, 0, none⟩)] W fun e w' => e = .returned (.bool (p c)) /\ Below W.heap.size W w') :
  Calls Try.prog 118 #[.slice A l.length cp, .func (.func 119) #[] #[.pointer (some ⟨rb, 0, none⟩)]] w fun e w' => e = .returned (.bool (decide (0 <= idx p l))) /\ Below w.heap.size w w' := by
 have HF := Lib.hid hf
 clear hf
 go_enter Try.func118, Try.ntmps118
 go_wp2_with (go_at_call 125; refine (idxRw_any l p cp rb A _ hn hrow HF.out).mono ?_; rintro e w' ⟨rfl, hb2⟩)
 go_ret
 exact ⟨rfl, hb2⟩
set_option maxHeartbeats 400000 in
theorem allRw_any (l : List Rw) (p : Rw -> Bool) (cp : Nat) (A : Option Addr) (w : World) (na nb : Nat) (hn : l.length <= 1000) (hrow : Row rwL 1 w w.heap.size A l)
  (hf : ∀ c ∈ l, ∀ W, Below w.heap.size w W -> Calls Try.prog 106 #[rwV c, .pointer (some ⟨na, 0, none⟩), .pointer (some ⟨nb, 0, none⟩)] W fun e w' => e = .returned (.bool (p c)) /\ Below W.heap.size W w') :
  Calls Try.prog 105 #[.slice A l.length cp, .func (.func 106) #[] #[.pointer (some ⟨na, 0, none⟩), .pointer (some ⟨nb, 0, none⟩)]] w fun e w' => e = .returned (.bool (l.all p)) /\ Below w.heap.size w w' := by
 have hX := containsRw_any l (fun c => !p c) cp w.heap.size A (w.alloc (.cells #[.func (.func 106) #[] #[.pointer (some ⟨na, 0, none⟩), .pointer (some ⟨nb, 0, none⟩)]] 157)) hn (hrow_ok hrow _) (fun c hc W hW => notRw_any c w.heap.size (p c) W na nb (keep_cell (Whole.at (Whole.made w 157 #[.func (.func 106) #[] #[.pointer (some ⟨na, 0, none⟩), .pointer (some ⟨nb, 0, none⟩)]]) 0 rfl) hW) fun W' hW' => hf c hc W' (below_next (below_next ((Below.refl _ _).alloc (Nat.le_refl _) _) hW) hW'))
 have HX := Lib.hid hX
 clear hX hf
 go_enter Try.func105, Try.ntmps105
 go_wp2_with (go_at_call 118; refine (HX.out).mono ?_; rintro e w' ⟨rfl, hb2⟩)
 go_ret
 exact ⟨ret_bool (idx_all p l), below_next ((Below.refl _ _).alloc (Nat.le_refl _) _) hb2⟩
set_option maxHeartbeats 1000000 in
theorem num_any (v : Int) (w : World) : Calls Try.prog 102 #[vi v] w fun e w' => e = .returned (.bool (inB v (-bigN) bigN)) /\ newer w w' := by
 have HW := Lib.hid (fun W => within_any v (-bigN) bigN W)
 go_enter Try.func102, Try.ntmps102
 go_wp2_with fail
 refine (HW.out _).mono ?_
 rintro e w1 ⟨rfl, rfl⟩
 go_wp2_with fail
 go_ret
 exact ⟨rfl, newer_refl _⟩
set_option maxRecDepth 100000 in
set_option maxHeartbeats 1000000 in
theorem lnShape_any (s : Sm) (f : Int) (t : Option Bool) (x : Ln) (na nb : Nat) (w : World) (hok : SmOk s w) (hs : SdOk s.sd) (hx : Whole w na 115 (lkC s f t)) (hf : Whole w nb 124 #[.func (.func 102) #[] #[]]) (hr : Row intL 1 w w.heap.size x.a x.l) (hl : x.l.length <= 1000) : Calls Try.prog 103 #[lnV x, .pointer (some ⟨na, 0, none⟩), .pointer (some ⟨nb, 0, none⟩)] w fun e w' => e = .returned (.bool (shL s.sd.n x.l)) /\ newer w w' := by
 have hcl := hs.cols
 rw [sd_len] at hcl
 obtain ⟨y, hy⟩ := get_of_lt (l := s.cs) (k := 0) (by omega)
 have hyn : y.beds.length = s.sd.n := (sd_n hy).symm
 have HB : Hid (∀ W, newer w W -> Calls Try.prog 81 #[lkV s f t] W fun e w' => e = .returned (vi s.sd.n) /\ newer W w') := Lib.hid (fun W hW => by
  have h := beds_any s f t y W (hok.next hW) hy
  rw [hyn] at h
  exact h)
 have l0 := hx.at 0 (v := .slice s.a s.cs.length s.c) rfl
 have l1 := hx.at 1 (v := vi s.least) rfl
 have l2 := hx.at 2 (v := vi f) rfl
 have l3 := hx.at 3 (v := .func (.func (trF t)) #[] #[]) rfl
 have f0 := hf.at 0 (v := .func (.func 102) #[] #[]) rfl
 have HF := Lib.hid hf
 have HAL : Hid (∀ W, newer w W -> Calls Try.prog 104 #[.slice x.a x.l.length x.c, .func (.func 102) #[] #[]] W fun e w' => e = .returned (.bool (x.l.all fun v => inB v (-bigN) bigN)) /\ newer W w') := Lib.hid (fun W hW => allIn_any x.l (fun v => inB v (-bigN) bigN) x.c x.a W hl ((hr.below hW).more hW.size) (fun v _ W' _ => num_any v W'))
 unfold shL
 obtain ⟨n, hn⟩ : ∃ n, n = s.sd.n := ⟨_, rfl⟩
 rw [<- hn] at HB ⊢
 obtain ⟨q, hq⟩ : ∃ q, q = x.l.all (fun v => inB v (-bigN) bigN) := ⟨_, rfl⟩
 rw [<- hq] at HAL ⊢
 obtain ⟨m, hm⟩ : ∃ m, m = x.l.length := ⟨_, rfl⟩
 rw [<- hm] at HAL ⊢
 simp only [lnV]
 rw [<- hm]
 clear hok hs hcl hy hyn hx hf hr hl hn hq hm
 by_cases he : m = n
 ·have h1 : ((m : Int) == (n : Int)) = true := by rw [he]; simp
  have HE := Lib.hid (decide_eq_true he)
  clear he
  go_enter Try.func103, Try.ntmps103
  go_wp2_with fail
  refine (HB.out _ (newer_refl _)).mono ?_
  rintro e w1 ⟨rfl, hb⟩
  have f0 := keep_cell f0 hb
  have HN := Lib.hid hb
  clear hb l0 l1 l2 l3
  go_wp2_with fail
  refine (HAL.out _ HN.out).mono ?_
  rintro e w2 ⟨rfl, hb⟩
  have HN2 := Lib.hid (newer_trans HN.out hb)
  clear hb
  go_wp2_with fail
  go_ret
  exact ⟨by rw [HE.out] <;> rfl, HN2.out⟩
 ·have h1 : ((m : Int) == (n : Int)) = false := by rw [beq_eq_false_iff_ne]; omega
  have HE := Lib.hid (decide_eq_false he)
  clear he
  go_enter Try.func103, Try.ntmps103
  go_wp2_with fail
  refine (HB.out _ (newer_refl _)).mono ?_
  rintro e w1 ⟨rfl, hb⟩
  have HN := Lib.hid hb
  clear hb l0 l1 l2 l3
  go_wp2_with fail
  go_ret
  exact ⟨by rw [HE.out] <;> rfl, HN.out⟩
set_option maxRecDepth 100000 in
set_option maxHeartbeats 1000000 in
theorem rwShape_any (s : Sm) (f : Int) (t : Option Bool) (x : Rw) (na nb nc : Nat) (w : World) (hok : SmOk s w) (hs : SdOk s.sd) (hx : Whole w na 115 (lkC s f t)) (hf : Whole w nc 124 #[.func (.func 102) #[] #[]]) (hg : Whole w nb 154 #[.func (.func 103) #[] #[.pointer (some ⟨na, 0, none⟩), .pointer (some ⟨nc, 0, none⟩)]]) (hr : Row lnL 1 w w.heap.size x.a x.ls) (hri : ∀ y ∈ x.ls, Row intL 1 w w.heap.size y.a y.l) (hl : x.ls.length <= 1000) (hll : ∀ y ∈ x.ls, y.l.length <= 1000) : Calls Try.prog 106 #[rwV x, .pointer (some ⟨na, 0, none⟩), .pointer (some ⟨nb, 0, none⟩)] w fun e w' => e = .returned (.bool (shR s.sd.n s.cs.length x.d)) /\ newer w w' := by
 have l0 := hx.at 0 (v := .slice s.a s.cs.length s.c) rfl
 have l1 := hx.at 1 (v := vi s.least) rfl
 have l2 := hx.at 2 (v := vi f) rfl
 have l3 := hx.at 3 (v := .func (.func (trF t)) #[] #[]) rfl
 have g0 := hg.at 0 (v := .func (.func 103) #[] #[.pointer (some ⟨na, 0, none⟩), .pointer (some ⟨nc, 0, none⟩)]) rfl
 have HAL := Lib.hid (allLn_any x.ls (fun y => shL s.sd.n y.l) x.c x.a w na nc hl hr (fun y hy W hW => lnShape_any s f t y na nc W (hok.next hW) hs (hx.below hW hx.lt) (hf.below hW hf.lt) (((hri y hy).below hW).more hW.size) (hll y hy)))
 unfold shR Rw.d
 rw [List.length_map, List.all_map, show (shL s.sd.n ∘ fun y : Ln => y.l) = fun y : Ln => shL s.sd.n y.l from rfl]
 obtain ⟨q, hq⟩ : ∃ q, q = x.ls.all (fun y => shL s.sd.n y.l) := ⟨_, rfl⟩
 rw [<- hq] at HAL ⊢
 obtain ⟨m, hm⟩ : ∃ m, m = x.ls.length := ⟨_, rfl⟩
 rw [<- hm] at HAL ⊢
 obtain ⟨n, hn⟩ : ∃ n, n = s.cs.length := ⟨_, rfl⟩
 simp only [rwV]
 rw [<- hm]
 rw [<- hn] at l0 ⊢
 clear hok hs hx hf hg hr hri hl hll hq hm hn
 by_cases he : m = n
 ·have h1 : ((m : Int) == (n : Int)) = true := by rw [he]; simp
  have HE := Lib.hid (decide_eq_true he)
  clear he
  go_enter Try.func106, Try.ntmps106
  go_wp2_with fail
  refine (HAL.out).mono ?_
  rintro e w2 ⟨rfl, hb⟩
  have HN2 := Lib.hid hb
  clear hb
  go_wp2_with fail
  go_ret
  exact ⟨by rw [HE.out] <;> rfl, HN2.out⟩
 ·have h1 : ((m : Int) == (n : Int)) = false := by rw [beq_eq_false_iff_ne]; omega
  have HE := Lib.hid (decide_eq_false he)
  clear he
  go_enter Try.func106, Try.ntmps106
  go_wp2_with fail
  go_ret
  exact ⟨by rw [HE.out] <;> rfl, newer_refl _⟩
set_option maxRecDepth 100000 in
set_option maxHeartbeats 1000000 in
theorem shaped_any (s : Sm) (f : Int) (t : Option Bool) (ts : List Rw) (A : Option Addr) (c : Nat) (w : World) (hok : SmOk s w) (hs : SdOk s.sd) (ht : TbOk ts A w) (few : TbFew ts) : Calls Try.prog 85 #[lkV s f t, .slice A ts.length c] w fun e w' => e = .returned (.bool (shT s.sd.n s.cs.length s.least (ts.map Rw.d))) /\ newer w w' := by
 have HF : Hid (newer w (((w.alloc (.cells (lkC s f t) 115)).alloc (.cells #[.func (.func 102) #[] #[]] 124)).alloc (.cells #[.func (.func 103) #[] #[.pointer (some ⟨w.heap.size, 0, none⟩), .pointer (some ⟨w.heap.size + 1, 0, none⟩)]] 154)) /\ Whole (((w.alloc (.cells (lkC s f t) 115)).alloc (.cells #[.func (.func 102) #[] #[]] 124)).alloc (.cells #[.func (.func 103) #[] #[.pointer (some ⟨w.heap.size, 0, none⟩), .pointer (some ⟨w.heap.size + 1, 0, none⟩)]] 154)) w.heap.size 115 (lkC s f t) /\ Whole (((w.alloc (.cells (lkC s f t) 115)).alloc (.cells #[.func (.func 102) #[] #[]] 124)).alloc (.cells #[.func (.func 103) #[] #[.pointer (some ⟨w.heap.size, 0, none⟩), .pointer (some ⟨w.heap.size + 1, 0, none⟩)]] 154)) (w.heap.size + 1) 124 #[.func (.func 102) #[] #[]] /\ Whole (((w.alloc (.cells (lkC s f t) 115)).alloc (.cells #[.func (.func 102) #[] #[]] 124)).alloc (.cells #[.func (.func 103) #[] #[.pointer (some ⟨w.heap.size, 0, none⟩), .pointer (some ⟨w.heap.size + 1, 0, none⟩)]] 154)) (w.heap.size + 1 + 1) 154 #[.func (.func 103) #[] #[.pointer (some ⟨w.heap.size, 0, none⟩), .pointer (some ⟨w.heap.size + 1, 0, none⟩)]]) := Lib.hid (by
  have e1 := newer_allocH w (.cells (lkC s f t) 115)
  have e2 := newer_allocH (w.alloc (.cells (lkC s f t) 115)) (.cells #[.func (.func 102) #[] #[]] 124)
  have e3 := newer_allocH ((w.alloc (.cells (lkC s f t) 115)).alloc (.cells #[.func (.func 102) #[] #[]] 124)) (.cells #[.func (.func 103) #[] #[.pointer (some ⟨w.heap.size, 0, none⟩), .pointer (some ⟨w.heap.size + 1, 0, none⟩)]] 154)
  have a1 := Whole.made w 115 (lkC s f t)
  have a2 := Whole.made (w.alloc (.cells (lkC s f t) 115)) 124 #[.func (.func 102) #[] #[]]
  have a3 := Whole.made ((w.alloc (.cells (lkC s f t) 115)).alloc (.cells #[.func (.func 102) #[] #[]] 124)) 154 #[.func (.func 103) #[] #[.pointer (some ⟨w.heap.size, 0, none⟩), .pointer (some ⟨w.heap.size + 1, 0, none⟩)]]
  rw [World.size_alloc] at a2
  rw [World.size_alloc, World.size_alloc] at a3
  exact ⟨newer_trans (newer_trans e1 e2) e3, (a1.below e2 a1.lt).below e3 (by simp; omega), a2.below e3 a2.lt, a3⟩)
 have HAL : Hid (∀ W, newer w W -> Whole W w.heap.size 115 (lkC s f t) -> Whole W (w.heap.size + 1) 124 #[.func (.func 102) #[] #[]] -> Whole W (w.heap.size + 1 + 1) 154 #[.func (.func 103) #[] #[.pointer (some ⟨w.heap.size, 0, none⟩), .pointer (some ⟨w.heap.size + 1, 0, none⟩)]] -> Calls Try.prog 105 #[.slice A ts.length c, .func (.func 106) #[] #[.pointer (some ⟨w.heap.size, 0, none⟩), .pointer (some ⟨w.heap.size + 1 + 1, 0, none⟩)]] W fun e w' => e = .returned (.bool (ts.all fun r => shR s.sd.n s.cs.length r.d)) /\ newer W w') := Lib.hid (fun W hW g1 g2 g3 => allRw_any ts (fun r => shR s.sd.n s.cs.length r.d) c A W w.heap.size (w.heap.size + 1 + 1) few.rows ((ht.next hW).rows) (fun r hr W' hW' => rwShape_any s f t r w.heap.size (w.heap.size + 1 + 1) (w.heap.size + 1) W' ((hok.next hW).next hW') hs (g1.below hW' g1.lt) (g2.below hW' g2.lt) (g3.below hW' g3.lt) (((ht.next hW).next hW').lss r hr) (((ht.next hW).next hW').nums r hr) (few.lss r hr) (few.nums r hr)))
 obtain ⟨w1, hw1⟩ : ∃ x, x = (((w.alloc (.cells (lkC s f t) 115)).alloc (.cells #[.func (.func 102) #[] #[]] 124)).alloc (.cells #[.func (.func 103) #[] #[.pointer (some ⟨w.heap.size, 0, none⟩), .pointer (some ⟨w.heap.size + 1, 0, none⟩)]] 154)) := ⟨_, rfl⟩
 rw [<- hw1] at HF
 have x1 := HF.out.2.1.at 1 (v := vi s.least) rfl
 rw [hw1] at x1
 unfold shT
 rw [List.length_map, List.all_map, show (shR s.sd.n s.cs.length ∘ Rw.d) = fun r : Rw => shR s.sd.n s.cs.length r.d from rfl]
 obtain ⟨q, hq⟩ : ∃ q, q = ts.all (fun r => shR s.sd.n s.cs.length r.d) := ⟨_, rfl⟩
 rw [<- hq] at HAL ⊢
 have HW := Lib.hid hw1
 clear hok hs ht few hq hw1
 by_cases he : (ts.length : Int) = s.least
 ·have h1 : ((ts.length : Int) == s.least) = true := by rw [he]; simp
  have HE := Lib.hid (decide_eq_true he)
  clear he
  go_enter Try.func85, Try.ntmps85
  go_wp2_with fail
  rw [<- HW.out]
  refine (HAL.out _ HF.out.1 HF.out.2.1 HF.out.2.2.1 HF.out.2.2.2).mono ?_
  rintro e w2 ⟨rfl, hb⟩
  have HN2 := Lib.hid (newer_trans HF.out.1 hb)
  clear hb x1
  go_wp2_with fail
  go_ret
  exact ⟨by rw [HE.out] <;> rfl, HN2.out⟩
 ·have h1 : ((ts.length : Int) == s.least) = false := by rw [beq_eq_false_iff_ne]; exact he
  have HE := Lib.hid (decide_eq_false he)
  clear he
  go_enter Try.func85, Try.ntmps85
  go_wp2_with fail
  go_ret
  rw [<- HW.out]
  exact ⟨by rw [HE.out] <;> rfl, HF.out.1⟩
end

end Go.Proofs.Ytkenokpobbichaa
