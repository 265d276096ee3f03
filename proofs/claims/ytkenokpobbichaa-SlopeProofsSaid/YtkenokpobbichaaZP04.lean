/- What the last text of this chain needs: X, Y0, Y, AA, AB, AC, AE, AF, AG, AH. -/
import Derived.Test.YtkenokpobbichaaZP03
namespace Go.Proofs.Ytkenokpobbichaa
section
open Go.RowKit Go.Shelf Go.Deep
def valC (i : Nat) : List Bd := match i with
 | 0 => [⟨400, 900, ⟨300, 400⟩, ⟨50, 60⟩, ⟨100, 200⟩⟩, ⟨600, 1500, ⟨400, 500⟩, ⟨20, 40⟩, ⟨300, 500⟩⟩]
 | 1 => [⟨300, 1000, ⟨300, 400⟩, ⟨50, 60⟩, ⟨0, 200⟩⟩, ⟨500, 1600, ⟨400, 500⟩, ⟨20, 40⟩, ⟨200, 600⟩⟩]
 | _ => [⟨(-100), 1200, ⟨300, 400⟩, ⟨50, 60⟩, ⟨0, 100⟩⟩, ⟨100, 1800, ⟨400, 500⟩, ⟨20, 40⟩, ⟨0, 400⟩⟩]
def valleyD : Sd := ⟨[valC 0, valC 1, valC 2], 2⟩
def valX (i : Nat) : Array Value := match i with
 | 0 => #[vi 400, vi 900, vi 300, vi 400, vi 50, vi 60, vi 100, vi 200, vi 600, vi 1500, vi 400, vi 500, vi 20, vi 40, vi 300, vi 500]
 | 1 => #[vi 300, vi 1000, vi 300, vi 400, vi 50, vi 60, vi 0, vi 200, vi 500, vi 1600, vi 400, vi 500, vi 20, vi 40, vi 200, vi 600]
 | _ => #[vi (-100), vi 1200, vi 300, vi 400, vi 50, vi 60, vi 0, vi 100, vi 100, vi 1800, vi 400, vi 500, vi 20, vi 40, vi 0, vi 400]
structure VM (B q c0 c1 c2 : Nat) (W : World) : Prop where
 mq : Whole W q 105 #[.slice (some ⟨c0, 0, none⟩) 2 2, .slice (some ⟨c1, 0, none⟩) 2 2, .slice (some ⟨c2, 0, none⟩) 2 2]
 m0 : Whole W c0 104 (valX 0)
 m1 : Whole W c1 104 (valX 1)
 m2 : Whole W c2 104 (valX 2)
 ge : B <= q /\ B <= c0 /\ B <= c1 /\ B <= c2
theorem VM.next {B q c0 c1 c2 : Nat} {W W' : World} (h : VM B q c0 c1 c2 W) (hb : newer W W') : VM B q c0 c1 c2 W' := ⟨h.mq.below hb h.mq.lt, h.m0.below hb h.m0.lt, h.m1.below hb h.m1.lt, h.m2.below hb h.m2.lt, h.ge⟩
abbrev valM (q c0 c1 c2 : Nat) : Sm := ⟨[⟨valC 0, some ⟨c0, 0, none⟩, 2⟩, ⟨valC 1, some ⟨c1, 0, none⟩, 2⟩, ⟨valC 2, some ⟨c2, 0, none⟩, 2⟩], some ⟨q, 0, none⟩, 3, 2⟩
theorem VM.ok {B q c0 c1 c2 : Nat} {W : World} (h : VM B q c0 c1 c2 W) : SmOk (valM q c0 c1 c2) W := by
 refine ⟨row_of_whole (enc := clL) (s := 1) (fun _ => rfl) h.mq rfl, fun x hx => ?_⟩
 simp only [List.mem_cons, List.not_mem_nil, or_false] at hx
 rcases hx with rfl | rfl | rfl
 ·exact row_of_whole (enc := bdL) (s := 8) (fun _ => rfl) h.m0 rfl
 ·exact row_of_whole (enc := bdL) (s := 8) (fun _ => rfl) h.m1 rfl
 ·exact row_of_whole (enc := bdL) (s := 8) (fun _ => rfl) h.m2 rfl
theorem VM.sd (q c0 c1 c2 : Nat) : (valM q c0 c1 c2).sd = valleyD := rfl
theorem valM_few (q c0 c1 c2 : Nat) : SmFew (valM q c0 c1 c2) := ⟨by simp, fun x hx => by
 simp only [List.mem_cons, List.not_mem_nil, or_false] at hx
 rcases hx with rfl | rfl | rfl <;> simp [valC]⟩
def vCol (B i : Nat) (v : Value) (W : World) : Prop := ∃ g, v = .slice (some ⟨g, 0, none⟩) 2 2 /\ B <= g /\ Whole W g 104 (valX i)
theorem vCol_st {B i : Nat} : ∀ v W W', vCol B i v W -> newer W W' -> vCol B i v W' := fun _ _ _ ⟨g, h1, h2, h3⟩ hb => ⟨g, h1, h2, h3.below hb h3.lt⟩
def vCols (B : Nat) (v : Value) (W : World) : Prop := ∃ q c0 c1 c2, v = .slice (some ⟨q, 0, none⟩) 3 3 /\ VM B q c0 c1 c2 W
theorem vCols_st {B : Nat} : ∀ v W W', vCols B v W -> newer W W' -> vCols B v W' := fun _ _ _ ⟨q, c0, c1, c2, h1, h2⟩ hb => ⟨q, c0, c1, c2, h1, h2.next hb⟩
def vVal (B : Nat) (v : Value) (W : World) : Prop := ∃ q c0 c1 c2, v = .agg #[.slice (some ⟨q, 0, none⟩) 3 3, vi 2] /\ VM B q c0 c1 c2 W
theorem vVal_st {B : Nat} : ∀ v W W', vVal B v W -> newer W W' -> vVal B v W' := fun _ _ _ ⟨q, c0, c1, c2, h1, h2⟩ hb => ⟨q, c0, c1, c2, h1, h2.next hb⟩
set_option maxRecDepth 100000 in
set_option maxHeartbeats 2000000 in
theorem valley_any (w : World) : Calls Try.prog 54 #[] w fun e w' => ∃ q c0 c1 c2, e = .returned (smV (valM q c0 c1 c2)) /\ VM w.heap.size q c0 c1 c2 w' /\ newer w w' := by
 have H0 := Lib.hid (And.intro (newer_allocH w (.cells #[.slice none 0 0, vi 0] 37)) (Whole.made w 37 #[.slice none 0 0, vi 0]))
 go_enter Try.func54, Try.ntmps54
 go_wp2_with fail
 refine (span56_any 300 400 _).mono ?_
 rintro e w1 ⟨rfl, hb⟩
 have H1 := Lib.hid (And.intro (newer_trans H0.out.1 hb) (H0.out.2.below hb H0.out.2.lt))
 clear H0 hb
 go_wp2_with fail
 refine (span56_any 400 500 _).mono ?_
 rintro e w2 ⟨rfl, hb⟩
 have H2 := Lib.hid (And.intro (newer_trans H1.out.1 hb) (H1.out.2.below hb H1.out.2.lt))
 clear H1 hb
 go_wp2_with fail
 refine (span56_any 50 60 _).mono ?_
 rintro e w3 ⟨rfl, hb⟩
 have H3 := Lib.hid (And.intro (newer_trans H2.out.1 hb) (H2.out.2.below hb H2.out.2.lt))
 clear H2 hb
 go_wp2_with fail
 refine (span56_any 20 40 _).mono ?_
 rintro e w4 ⟨rfl, hb⟩
 have H4 := Lib.hid (And.intro (newer_trans H3.out.1 hb) (H3.out.2.below hb H3.out.2.lt))
 clear H3 hb
 have H9 : Hid (newer w ((((w4.alloc (.cells #[vi 300, vi 400] 31)).alloc (.cells #[vi 400, vi 500] 31)).alloc (.cells #[vi 50, vi 60] 31)).alloc (.cells #[vi 20, vi 40] 31)) /\ Whole ((((w4.alloc (.cells #[vi 300, vi 400] 31)).alloc (.cells #[vi 400, vi 500] 31)).alloc (.cells #[vi 50, vi 60] 31)).alloc (.cells #[vi 20, vi 40] 31)) w.heap.size 37 #[.slice none 0 0, vi 0] /\ Whole ((((w4.alloc (.cells #[vi 300, vi 400] 31)).alloc (.cells #[vi 400, vi 500] 31)).alloc (.cells #[vi 50, vi 60] 31)).alloc (.cells #[vi 20, vi 40] 31)) w4.heap.size 31 #[vi 300, vi 400] /\ Whole ((((w4.alloc (.cells #[vi 300, vi 400] 31)).alloc (.cells #[vi 400, vi 500] 31)).alloc (.cells #[vi 50, vi 60] 31)).alloc (.cells #[vi 20, vi 40] 31)) (w4.heap.size + 1) 31 #[vi 400, vi 500] /\ Whole ((((w4.alloc (.cells #[vi 300, vi 400] 31)).alloc (.cells #[vi 400, vi 500] 31)).alloc (.cells #[vi 50, vi 60] 31)).alloc (.cells #[vi 20, vi 40] 31)) (w4.heap.size + 1 + 1) 31 #[vi 50, vi 60] /\ Whole ((((w4.alloc (.cells #[vi 300, vi 400] 31)).alloc (.cells #[vi 400, vi 500] 31)).alloc (.cells #[vi 50, vi 60] 31)).alloc (.cells #[vi 20, vi 40] 31)) (w4.heap.size + 1 + 1 + 1) 31 #[vi 20, vi 40]) := Lib.hid (by
  have m0 := (((Whole.made w4 31 #[vi 300, vi 400]).alloc (.cells #[vi 400, vi 500] 31)).alloc (.cells #[vi 50, vi 60] 31)).alloc (.cells #[vi 20, vi 40] 31)
  have m1 := ((Whole.made (w4.alloc (.cells #[vi 300, vi 400] 31)) 31 #[vi 400, vi 500]).alloc (.cells #[vi 50, vi 60] 31)).alloc (.cells #[vi 20, vi 40] 31)
  have m2 := (Whole.made ((w4.alloc (.cells #[vi 300, vi 400] 31)).alloc (.cells #[vi 400, vi 500] 31)) 31 #[vi 50, vi 60]).alloc (.cells #[vi 20, vi 40] 31)
  have m3 := Whole.made (((w4.alloc (.cells #[vi 300, vi 400] 31)).alloc (.cells #[vi 400, vi 500] 31)).alloc (.cells #[vi 50, vi 60] 31)) 31 #[vi 20, vi 40]
  simp only [World.size_alloc] at m1 m2 m3
  have e := newer_trans (newer_trans (newer_trans (newer_allocH w4 (.cells #[vi 300, vi 400] 31)) (newer_allocH _ (.cells #[vi 400, vi 500] 31))) (newer_allocH _ (.cells #[vi 50, vi 60] 31))) (newer_allocH _ (.cells #[vi 20, vi 40] 31))
  exact ⟨newer_trans H4.out.1 e, H4.out.2.below e H4.out.2.lt, m0, m1, m2, m3⟩)
 clear H4
 go_upto_region 2 with fail
 refine genQ (fun X => newer w X /\ Whole X w.heap.size 37 #[.slice none 0 0, vi 0] /\ Whole X w4.heap.size 31 #[vi 300, vi 400] /\ Whole X (w4.heap.size + 1) 31 #[vi 400, vi 500] /\ Whole X (w4.heap.size + 1 + 1) 31 #[vi 50, vi 60] /\ Whole X (w4.heap.size + 1 + 1 + 1) 31 #[vi 20, vi 40]) H9.out ?_
 clear H9
 rintro w9 ⟨a1, a2, a3, a4, a5, a6⟩
 have s0 := a3.at 0 (v := vi 300) rfl
 have s1 := a3.at 1 (v := vi 400) rfl
 have f0 := a4.at 0 (v := vi 400) rfl
 have f1 := a4.at 1 (v := vi 500) rfl
 have n0 := a5.at 0 (v := vi 50) rfl
 have n1 := a5.at 1 (v := vi 60) rfl
 have k0 := a6.at 0 (v := vi 20) rfl
 have k1 := a6.at 1 (v := vi 40) rfl
 have H9 := Lib.hid (And.intro a1 a2)
 clear a1 a2 a3 a4 a5 a6
 refine wp_words (by kernel_rfl) (region_told 29 (by kernel_rfl) (by kernel_rfl) (fun W => Below w9.heap.size w9 W) newer (pickD [vIs (rgV ⟨300, 400⟩), vIs (rgV ⟨50, 60⟩), vIs (rgV ⟨100, 200⟩), vIs (bdV ⟨400, 900, ⟨300, 400⟩, ⟨50, 60⟩, ⟨100, 200⟩⟩), vIs (rgV ⟨400, 500⟩), vIs (rgV ⟨20, 40⟩), vIs (rgV ⟨300, 500⟩), vIs (bdV ⟨600, 1500, ⟨400, 500⟩, ⟨20, 40⟩, ⟨300, 500⟩⟩), vCol w9.heap.size 0, vIs (rgV ⟨300, 400⟩), vIs (rgV ⟨50, 60⟩), vIs (rgV ⟨0, 200⟩), vIs (bdV ⟨300, 1000, ⟨300, 400⟩, ⟨50, 60⟩, ⟨0, 200⟩⟩), vIs (rgV ⟨400, 500⟩), vIs (rgV ⟨20, 40⟩), vIs (rgV ⟨200, 600⟩), vIs (bdV ⟨500, 1600, ⟨400, 500⟩, ⟨20, 40⟩, ⟨200, 600⟩⟩), vCol w9.heap.size 1, vIs (rgV ⟨300, 400⟩), vIs (rgV ⟨50, 60⟩), vIs (rgV ⟨0, 100⟩), vIs (bdV ⟨(-100), 1200, ⟨300, 400⟩, ⟨50, 60⟩, ⟨0, 100⟩⟩), vIs (rgV ⟨400, 500⟩), vIs (rgV ⟨20, 40⟩), vIs (rgV ⟨0, 400⟩), vIs (bdV ⟨100, 1800, ⟨400, 500⟩, ⟨20, 40⟩, ⟨0, 400⟩⟩), vCol w9.heap.size 2, vCols w9.heap.size, vVal w9.heap.size]) (fun h k => newer_trans h k) (pickD_stable _ ⟨vIs_st, vIs_st, vIs_st, vIs_st, vIs_st, vIs_st, vIs_st, vIs_st, vCol_st, vIs_st, vIs_st, vIs_st, vIs_st, vIs_st, vIs_st, vIs_st, vIs_st, vCol_st, vIs_st, vIs_st, vIs_st, vIs_st, vIs_st, vIs_st, vIs_st, vIs_st, vCol_st, vCols_st, vVal_st, trivial⟩) (Below.refl _ w9).drew (Below.refl _ _) ?_ ?_)
 ·refine ⟨?_, ?_, ?_, ?_, ?_, ?_, ?_, ?_, ?_, ?_, ?_, ?_, ?_, ?_, ?_, ?_, ?_, ?_, ?_, ?_, ?_, ?_, ?_, ?_, ?_, ?_, ?_, ?_, ?_, trivial⟩
  ·intro a W hG hR hO hp; have h1 := hO.slot 1 (by kernel_rfl); have c0 := keep_cell s0 hG; have c1 := keep_cell s1 hG; refine kY (v := rgV ⟨300, 400⟩) hG rfl ?_; simp [slotOf] at h1; simp [execOp, go_sem, h1, c0, c1]
  ·intro a W hG hR hO hp; have h3 := hO.slot 3 (by kernel_rfl); have c0 := keep_cell n0 hG; have c1 := keep_cell n1 hG; refine kY (v := rgV ⟨50, 60⟩) hG rfl ?_; simp [slotOf] at h3; simp [execOp, go_sem, h3, c0, c1]
  ·intro a W hG hR hO hp
   refine wp_enters (f := 56) (args := #[vi 100, vi 200]) ?_ ((span56_any 100 200 W).mono ?_)
   ·skip
    simp [go_sem]
   ·rintro e w' ⟨rfl, hb⟩
    exact ⟨_, rfl, _, rfl, rfl, hb, below_next hG hb⟩
  ·intro a W hG hR hO hp
   have h9 : slotOf a 9 = rgV ⟨300, 400⟩ := hp.1
   have h10 : slotOf a 10 = rgV ⟨50, 60⟩ := hp.2.1
   have h11 : slotOf a 11 = rgV ⟨100, 200⟩ := hp.2.2.1
   refine wp_enters (f := 87) (args := #[vi 400, vi 900, rgV ⟨300, 400⟩, rgV ⟨50, 60⟩, rgV ⟨100, 200⟩]) ?_ ((bed87_any 400 900 ⟨300, 400⟩ ⟨50, 60⟩ ⟨100, 200⟩ W).mono ?_)
   ·simp [slotOf] at h9 h10 h11
    simp [go_sem, h9, h10, h11]
   ·rintro e w' ⟨rfl, hb⟩
    exact ⟨_, rfl, _, rfl, rfl, hb, below_next hG hb⟩
  ·intro a W hG hR hO hp; have h2 := hO.slot 2 (by kernel_rfl); have c0 := keep_cell f0 hG; have c1 := keep_cell f1 hG; refine kY (v := rgV ⟨400, 500⟩) hG rfl ?_; simp [slotOf] at h2; simp [execOp, go_sem, h2, c0, c1]
  ·intro a W hG hR hO hp; have h4 := hO.slot 4 (by kernel_rfl); have c0 := keep_cell k0 hG; have c1 := keep_cell k1 hG; refine kY (v := rgV ⟨20, 40⟩) hG rfl ?_; simp [slotOf] at h4; simp [execOp, go_sem, h4, c0, c1]
  ·intro a W hG hR hO hp
   refine wp_enters (f := 56) (args := #[vi 300, vi 500]) ?_ ((span56_any 300 500 W).mono ?_)
   ·skip
    simp [go_sem]
   ·rintro e w' ⟨rfl, hb⟩
    exact ⟨_, rfl, _, rfl, rfl, hb, below_next hG hb⟩
  ·intro a W hG hR hO hp
   have h13 : slotOf a 13 = rgV ⟨400, 500⟩ := hp.1
   have h14 : slotOf a 14 = rgV ⟨20, 40⟩ := hp.2.1
   have h15 : slotOf a 15 = rgV ⟨300, 500⟩ := hp.2.2.1
   refine wp_enters (f := 87) (args := #[vi 600, vi 1500, rgV ⟨400, 500⟩, rgV ⟨20, 40⟩, rgV ⟨300, 500⟩]) ?_ ((bed87_any 600 1500 ⟨400, 500⟩ ⟨20, 40⟩ ⟨300, 500⟩ W).mono ?_)
   ·simp [slotOf] at h13 h14 h15
    simp [go_sem, h13, h14, h15]
   ·rintro e w' ⟨rfl, hb⟩
    exact ⟨_, rfl, _, rfl, rfl, hb, below_next hG hb⟩
  ·intro a W hG hR hO hp; have h12 : slotOf a 12 = bdV ⟨400, 900, ⟨300, 400⟩, ⟨50, 60⟩, ⟨100, 200⟩⟩ := hp.1; have h16 : slotOf a 16 = bdV ⟨600, 1500, ⟨400, 500⟩, ⟨20, 40⟩, ⟨300, 500⟩⟩ := hp.2.1; refine wp_makes (v := .slice (some ⟨W.heap.size, 0, none⟩) 2 2) (W' := W.alloc (.cells (valX 0) 104)) ?_ ⟨_, rfl, ⟨_, rfl, hG.size, Whole.made _ _ _⟩, newer_allocH _ _, below_next hG (newer_allocH _ _)⟩; simp [slotOf] at h12 h16; simp [execOp, go_sem, h12, h16, valX]
  ·intro a W hG hR hO hp; have h1 := hO.slot 1 (by kernel_rfl); have c0 := keep_cell s0 hG; have c1 := keep_cell s1 hG; refine kY (v := rgV ⟨300, 400⟩) hG rfl ?_; simp [slotOf] at h1; simp [execOp, go_sem, h1, c0, c1]
  ·intro a W hG hR hO hp; have h3 := hO.slot 3 (by kernel_rfl); have c0 := keep_cell n0 hG; have c1 := keep_cell n1 hG; refine kY (v := rgV ⟨50, 60⟩) hG rfl ?_; simp [slotOf] at h3; simp [execOp, go_sem, h3, c0, c1]
  ·intro a W hG hR hO hp
   refine wp_enters (f := 56) (args := #[vi 0, vi 200]) ?_ ((span56_any 0 200 W).mono ?_)
   ·skip
    simp [go_sem]
   ·rintro e w' ⟨rfl, hb⟩
    exact ⟨_, rfl, _, rfl, rfl, hb, below_next hG hb⟩
  ·intro a W hG hR hO hp
   have h18 : slotOf a 18 = rgV ⟨300, 400⟩ := hp.1
   have h19 : slotOf a 19 = rgV ⟨50, 60⟩ := hp.2.1
   have h20 : slotOf a 20 = rgV ⟨0, 200⟩ := hp.2.2.1
   refine wp_enters (f := 87) (args := #[vi 300, vi 1000, rgV ⟨300, 400⟩, rgV ⟨50, 60⟩, rgV ⟨0, 200⟩]) ?_ ((bed87_any 300 1000 ⟨300, 400⟩ ⟨50, 60⟩ ⟨0, 200⟩ W).mono ?_)
   ·simp [slotOf] at h18 h19 h20
    simp [go_sem, h18, h19, h20]
   ·rintro e w' ⟨rfl, hb⟩
    exact ⟨_, rfl, _, rfl, rfl, hb, below_next hG hb⟩
  ·intro a W hG hR hO hp; have h2 := hO.slot 2 (by kernel_rfl); have c0 := keep_cell f0 hG; have c1 := keep_cell f1 hG; refine kY (v := rgV ⟨400, 500⟩) hG rfl ?_; simp [slotOf] at h2; simp [execOp, go_sem, h2, c0, c1]
  ·intro a W hG hR hO hp; have h4 := hO.slot 4 (by kernel_rfl); have c0 := keep_cell k0 hG; have c1 := keep_cell k1 hG; refine kY (v := rgV ⟨20, 40⟩) hG rfl ?_; simp [slotOf] at h4; simp [execOp, go_sem, h4, c0, c1]
  ·intro a W hG hR hO hp
   refine wp_enters (f := 56) (args := #[vi 200, vi 600]) ?_ ((span56_any 200 600 W).mono ?_)
   ·skip
    simp [go_sem]
   ·rintro e w' ⟨rfl, hb⟩
    exact ⟨_, rfl, _, rfl, rfl, hb, below_next hG hb⟩
  ·intro a W hG hR hO hp
   have h22 : slotOf a 22 = rgV ⟨400, 500⟩ := hp.1
   have h23 : slotOf a 23 = rgV ⟨20, 40⟩ := hp.2.1
   have h24 : slotOf a 24 = rgV ⟨200, 600⟩ := hp.2.2.1
   refine wp_enters (f := 87) (args := #[vi 500, vi 1600, rgV ⟨400, 500⟩, rgV ⟨20, 40⟩, rgV ⟨200, 600⟩]) ?_ ((bed87_any 500 1600 ⟨400, 500⟩ ⟨20, 40⟩ ⟨200, 600⟩ W).mono ?_)
   ·simp [slotOf] at h22 h23 h24
    simp [go_sem, h22, h23, h24]
   ·rintro e w' ⟨rfl, hb⟩
    exact ⟨_, rfl, _, rfl, rfl, hb, below_next hG hb⟩
  ·intro a W hG hR hO hp; have h21 : slotOf a 21 = bdV ⟨300, 1000, ⟨300, 400⟩, ⟨50, 60⟩, ⟨0, 200⟩⟩ := hp.1; have h25 : slotOf a 25 = bdV ⟨500, 1600, ⟨400, 500⟩, ⟨20, 40⟩, ⟨200, 600⟩⟩ := hp.2.1; refine wp_makes (v := .slice (some ⟨W.heap.size, 0, none⟩) 2 2) (W' := W.alloc (.cells (valX 1) 104)) ?_ ⟨_, rfl, ⟨_, rfl, hG.size, Whole.made _ _ _⟩, newer_allocH _ _, below_next hG (newer_allocH _ _)⟩; simp [slotOf] at h21 h25; simp [execOp, go_sem, h21, h25, valX]
  ·intro a W hG hR hO hp; have h1 := hO.slot 1 (by kernel_rfl); have c0 := keep_cell s0 hG; have c1 := keep_cell s1 hG; refine kY (v := rgV ⟨300, 400⟩) hG rfl ?_; simp [slotOf] at h1; simp [execOp, go_sem, h1, c0, c1]
  ·intro a W hG hR hO hp; have h3 := hO.slot 3 (by kernel_rfl); have c0 := keep_cell n0 hG; have c1 := keep_cell n1 hG; refine kY (v := rgV ⟨50, 60⟩) hG rfl ?_; simp [slotOf] at h3; simp [execOp, go_sem, h3, c0, c1]
  ·intro a W hG hR hO hp
   refine wp_enters (f := 56) (args := #[vi 0, vi 100]) ?_ ((span56_any 0 100 W).mono ?_)
   ·skip
    simp [go_sem]
   ·rintro e w' ⟨rfl, hb⟩
    exact ⟨_, rfl, _, rfl, rfl, hb, below_next hG hb⟩
  ·intro a W hG hR hO hp
   have h27 : slotOf a 27 = rgV ⟨300, 400⟩ := hp.1
   have h28 : slotOf a 28 = rgV ⟨50, 60⟩ := hp.2.1
   have h29 : slotOf a 29 = rgV ⟨0, 100⟩ := hp.2.2.1
   refine wp_enters (f := 87) (args := #[vi (-100), vi 1200, rgV ⟨300, 400⟩, rgV ⟨50, 60⟩, rgV ⟨0, 100⟩]) ?_ ((bed87_any (-100) 1200 ⟨300, 400⟩ ⟨50, 60⟩ ⟨0, 100⟩ W).mono ?_)
   ·simp [slotOf] at h27 h28 h29
    simp [go_sem, h27, h28, h29]
   ·rintro e w' ⟨rfl, hb⟩
    exact ⟨_, rfl, _, rfl, rfl, hb, below_next hG hb⟩
  ·intro a W hG hR hO hp; have h2 := hO.slot 2 (by kernel_rfl); have c0 := keep_cell f0 hG; have c1 := keep_cell f1 hG; refine kY (v := rgV ⟨400, 500⟩) hG rfl ?_; simp [slotOf] at h2; simp [execOp, go_sem, h2, c0, c1]
  ·intro a W hG hR hO hp; have h4 := hO.slot 4 (by kernel_rfl); have c0 := keep_cell k0 hG; have c1 := keep_cell k1 hG; refine kY (v := rgV ⟨20, 40⟩) hG rfl ?_; simp [slotOf] at h4; simp [execOp, go_sem, h4, c0, c1]
  ·intro a W hG hR hO hp
   refine wp_enters (f := 56) (args := #[vi 0, vi 400]) ?_ ((span56_any 0 400 W).mono ?_)
   ·skip
    simp [go_sem]
   ·rintro e w' ⟨rfl, hb⟩
    exact ⟨_, rfl, _, rfl, rfl, hb, below_next hG hb⟩
  ·intro a W hG hR hO hp
   have h31 : slotOf a 31 = rgV ⟨400, 500⟩ := hp.1
   have h32 : slotOf a 32 = rgV ⟨20, 40⟩ := hp.2.1
   have h33 : slotOf a 33 = rgV ⟨0, 400⟩ := hp.2.2.1
   refine wp_enters (f := 87) (args := #[vi 100, vi 1800, rgV ⟨400, 500⟩, rgV ⟨20, 40⟩, rgV ⟨0, 400⟩]) ?_ ((bed87_any 100 1800 ⟨400, 500⟩ ⟨20, 40⟩ ⟨0, 400⟩ W).mono ?_)
   ·simp [slotOf] at h31 h32 h33
    simp [go_sem, h31, h32, h33]
   ·rintro e w' ⟨rfl, hb⟩
    exact ⟨_, rfl, _, rfl, rfl, hb, below_next hG hb⟩
  ·intro a W hG hR hO hp; have h30 : slotOf a 30 = bdV ⟨(-100), 1200, ⟨300, 400⟩, ⟨50, 60⟩, ⟨0, 100⟩⟩ := hp.1; have h34 : slotOf a 34 = bdV ⟨100, 1800, ⟨400, 500⟩, ⟨20, 40⟩, ⟨0, 400⟩⟩ := hp.2.1; refine wp_makes (v := .slice (some ⟨W.heap.size, 0, none⟩) 2 2) (W' := W.alloc (.cells (valX 2) 104)) ?_ ⟨_, rfl, ⟨_, rfl, hG.size, Whole.made _ _ _⟩, newer_allocH _ _, below_next hG (newer_allocH _ _)⟩; simp [slotOf] at h30 h34; simp [execOp, go_sem, h30, h34, valX]
  ·intro a W hG hR hO hp; have h17 := hp.1; have h26 := hp.2.1; have h35 := hp.2.2.1; obtain ⟨g0, h17, ha0, hw0⟩ := h17; obtain ⟨g1, h26, ha1, hw1⟩ := h26; obtain ⟨g2, h35, ha2, hw2⟩ := h35; refine wp_makes (v := .slice (some ⟨W.heap.size, 0, none⟩) 3 3) (W' := W.alloc (.cells #[.slice (some ⟨g0, 0, none⟩) 2 2, .slice (some ⟨g1, 0, none⟩) 2 2, .slice (some ⟨g2, 0, none⟩) 2 2] 105)) ?_ ⟨_, rfl, ⟨_, g0, g1, g2, rfl, Whole.made _ _ _, hw0.alloc _, hw1.alloc _, hw2.alloc _, hG.size, ha0, ha1, ha2⟩, newer_allocH _ _, below_next hG (newer_allocH _ _)⟩; simp [slotOf] at h17 h26 h35; simp [execOp, go_sem, h17, h26, h35]
  ·intro a W hG hR hO hp; have h36 := hp.1; obtain ⟨q, g0, g1, g2, h36, hvm⟩ := h36; refine wp_yields (v := .agg #[.slice (some ⟨q, 0, none⟩) 3 3, vi 2]) ?_ ⟨_, rfl, ⟨q, g0, g1, g2, rfl, hvm⟩, Below.refl _ _, hG⟩; simp [slotOf] at h36; simp [execOp, go_sem, h36]
 ·intro wz hG hR
  rintro _ rfl _ rfl _ rfl _ rfl _ rfl _ rfl _ rfl _ rfl _ - _ rfl _ rfl _ rfl _ rfl _ rfl _ rfl _ rfl _ rfl _ - _ rfl _ rfl _ rfl _ rfl _ rfl _ rfl _ rfl _ rfl _ - _ - _ ⟨q, c0, c1, c2, rfl, hvm⟩
  change wpList _ _ _ _ _ _
  simp only [Act.put, List.setIfInBounds_toArray, List.set_cons_zero, List.set_cons_succ, List.drop_succ_cons, List.drop_zero]
  have hr := H9.out.2.below hG H9.out.2.lt
  have r0 := hr.at 0 (v := .slice none 0 0) rfl
  have r1 := hr.at 1 (v := vi 0) rfl
  have rf0 := hr.free 0
  have rf1 := hr.free 1
  have hset := (hr.set 0 (.slice (some ⟨q, 0, none⟩) 3 3)).set 1 (vi 2)
  have z0 := hset.at 0 (v := .slice (some ⟨q, 0, none⟩) 3 3) rfl
  have z1 := hset.at 1 (v := vi 2) rfl
  have HF : Hid (VM w.heap.size q c0 c1 c2 ((wz.setCell ⟨w.heap.size, 0, none⟩ (.slice (some ⟨q, 0, none⟩) 3 3)).setCell ⟨w.heap.size, 1, none⟩ (vi 2)) /\ newer w ((wz.setCell ⟨w.heap.size, 0, none⟩ (.slice (some ⟨q, 0, none⟩) 3 3)).setCell ⟨w.heap.size, 1, none⟩ (vi 2))) := Lib.hid (by
   have h9 := H9.out.1.size
   have hl := H9.out.2.lt
   obtain ⟨p1, p2, p3, p4⟩ := hvm.ge
   refine ⟨⟨(hvm.mq.far (by dsimp only; omega) _).far (by dsimp only; omega) _, (hvm.m0.far (by dsimp only; omega) _).far (by dsimp only; omega) _, (hvm.m1.far (by dsimp only; omega) _).far (by dsimp only; omega) _, (hvm.m2.far (by dsimp only; omega) _).far (by dsimp only; omega) _, by omega, by omega, by omega, by omega⟩, ((newer_trans H9.out.1 hG).setCell (p := ⟨w.heap.size, 0, none⟩) (Nat.le_refl _) _).setCell (p := ⟨w.heap.size, 1, none⟩) (Nat.le_refl _) _⟩)
  clear hr hset hvm hG hR s0 s1 f0 f1 n0 n1 k0 k1
  go_wp2_with fail
  exact bodyPost_ret (v := .agg #[.slice (some ⟨q, 0, none⟩) 3 3, vi 2]) (by simp [results, Try.results54, go_sem, z0, z1]) rfl ⟨q, c0, c1, c2, rfl, HF.out.1, HF.out.2⟩
end

section
open Go.RowKit Go.Shelf Go.Deep
theorem val_span : checkUN valleyD 0 [0, 0] = 0 /\ dK (bedsU valleyD 0 [0, 0]) (bedsU valleyD 0 [0, 0]).length = 700 /\ facE (bedsU valleyD 0 [0, 0]) false = 785 /\ facE (bedsU valleyD 0 [0, 0]) true = 1200 := by decide +kernel
theorem val_ok : slopeB valleyD = true := by decide +kernel
theorem val_worst : worstS valleyD = some ((0, [0, 1]), 755) := by decide +kernel
theorem val_enough : enoughN valleyD 700 = 0 := by decide +kernel
theorem val_margin : marginS valleyD 700 = 70 := by decide +kernel
theorem val_moves : askedN valleyD 1300 = 0 /\ movesL valleyD 1300 (some true) = [0, 1] /\ movesL valleyD 1300 (some false) = [0, 1, 2] := by decide +kernel
end

section
open Go.RowKit Go.Shelf Go.Deep
theorem exec_eq31 {o : Oper} {a : Act} {W : World} {x y : Operand} {lo hi : Int} (ho : o.op = .binOp .eql 31 x y 31) (hx : a.eval x = .agg #[vi lo, vi hi]) (hy : a.eval y = .agg #[vi lo, vi hi]) : (execOp a.eval o).run Try.prog W = .ok (.value (.bool true)) W := by
 unfold execOp
 rw [ho]
 dsimp only
 rw [hx, hy]
 simp [go_sem]
theorem val_span_any (q c0 c1 c2 ub cc : Nat) (w : World) {B : Nat} (h : VM B q c0 c1 c2 w) (hu : Whole w ub 3 #[vi 0, vi 0]) : Calls Try.prog 18 #[smV (valM q c0 c1 c2), .agg #[vi 0, .slice (some ⟨ub, 0, none⟩) 2 cc]] w fun e w' => e = .returned (.tuple #[.agg #[vi 785, vi 1200], vi 0]) /\ newer w w' := by
 have h1 := span_any (valM q c0 c1 c2) ⟨0, [0, 0], some ⟨ub, 0, none⟩, cc⟩ w h.ok (valM_few _ _ _ _) (row_of_whole (enc := intL) (s := 1) (fun _ => rfl) hu rfl) (by simp)
 have e : spanV (valM q c0 c1 c2).sd 0 [0, 0] = .tuple #[.agg #[vi 785, vi 1200], vi 0] := by
  rw [VM.sd]
  unfold spanV
  obtain ⟨e1, e2, e3, e4⟩ := val_span
  rw [if_pos e1, e2, if_neg (by decide), e3, e4]
 rw [e] at h1
 exact h1
theorem worst_says (s : Sm) (w : World) (hok : SmOk s w) (few : SmFew s) {k : Nat} {l : List Nat} {v : Int} (hv : slopeB s.sd = true) (hw : worstS s.sd = some ((k, l), v)) : Calls Try.prog 25 #[smV s] w fun e w' => ∃ A c, e = .returned (.tuple #[.agg #[vi k, .slice A l.length c], vi v, vi 0]) /\ w'.ownsRow w.heap.size 3 1 (.slice A l.length c) l.length (l.map fun x : Nat => vi x) /\ newer w w' := by
 refine (worst_any s w hok few).mono ?_
 rintro e w' ⟨h1, h2⟩
 unfold worstOut at h1
 rw [hv, hw] at h1
 obtain ⟨A, c, h3, h4⟩ := h1
 exact ⟨A, c, h3, h4, h2⟩
theorem val_worst_any (q c0 c1 c2 : Nat) (w : World) {B : Nat} (h : VM B q c0 c1 c2 w) : Calls Try.prog 25 #[smV (valM q c0 c1 c2)] w fun e w' => ∃ A c, e = .returned (.tuple #[.agg #[vi 0, .slice A 2 c], vi 755, vi 0]) /\ Row intL 1 w' w'.heap.size A [0, 1] /\ newer w w' := by
 refine (worst_says (valM q c0 c1 c2) w h.ok (valM_few _ _ _ _) (k := 0) (l := [0, 1]) (v := 755) val_ok val_worst).mono ?_
 rintro e w' ⟨A, c, h3, h4, h2⟩
 exact ⟨A, c, h3, row_of_own (enc := intL) (size := 1) (l := [0, 1]) (by omega) (fun _ => rfl) h4, h2⟩
theorem val_margin_any (q c0 c1 c2 : Nat) (w : World) {B : Nat} (h : VM B q c0 c1 c2 w) : Calls Try.prog 31 #[smV (valM q c0 c1 c2), vi 700] w fun e w' => e = .returned (.tuple #[vi 70, vi 0]) /\ newer w w' := by
 have h1 := margin_any (valM q c0 c1 c2) 700 w h.ok (valM_few _ _ _ _)
 have e : marginOut (valM q c0 c1 c2).sd 700 = .tuple #[vi 70, vi 0] := by
  rw [VM.sd]
  unfold marginOut
  rw [if_pos val_enough, val_margin]
  rfl
 rw [e] at h1
 exact h1
theorem val_moves_any (q c0 c1 c2 : Nat) (w : World) {B : Nat} (h : VM B q c0 c1 c2 w) : Calls Try.prog 35 #[smV (valM q c0 c1 c2), vi 1300] w fun e w' => ∃ A c D d, e = .returned (.tuple #[.slice A 2 c, .slice D 3 d, vi 0]) /\ Row intL 1 w' w'.heap.size A [0, 1] /\ Row intL 1 w' w'.heap.size D [0, 1, 2] /\ newer w w' := by
 refine (moves35_any (valM q c0 c1 c2) 1300 w h.ok (valM_few _ _ _ _)).mono ?_
 rintro e w' ⟨h1, h2⟩
 unfold movesOut at h1
 rw [VM.sd, val_moves.1, val_moves.2.1, val_moves.2.2] at h1
 obtain ⟨A, c, D, d, h3, h4, h5⟩ := h1
 exact ⟨A, c, D, d, h3, row_of_own (enc := intL) (size := 1) (l := [0, 1]) (by omega) (fun _ => rfl) h4, row_of_own (enc := intL) (size := 1) (l := [0, 1, 2]) (by omega) (fun _ => rfl) h5, h2⟩
set_option maxRecDepth 100000 in
set_option maxHeartbeats 8000000 in
theorem wakes_any (w : World) : Calls Try.prog 17 #[] w fun e w' => e = .returned (.bool true) /\ newer w w' := by
 go_enter Try.func17, Try.ntmps17
 go_wp2_with fail
 refine (valley_any w).mono ?_
 rintro e w1 ⟨q1, a1, b1, c1, rfl, hv1, hb1⟩
 have e2 := newer_allocH w1 (.cells #[vi 0, vi 0] 3)
 have HV1 := Lib.hid (And.intro (hv1.next e2) (And.intro (Whole.made w1 3 #[vi 0, vi 0]) (newer_trans hb1 e2)))
 clear hv1 hb1 e2
 go_wp2_with fail
 refine (from0_any _ _ _ _).mono ?_
 rintro e w2 ⟨rfl, hb⟩
 have HV2 := Lib.hid (And.intro (HV1.out.1.next hb) (And.intro (HV1.out.2.1.below hb HV1.out.2.1.lt) (newer_trans HV1.out.2.2 hb)))
 clear hb HV1
 go_wp2_with fail
 refine (val_span_any q1 a1 b1 c1 _ _ w2 HV2.out.1 HV2.out.2.1).mono ?_
 rintro e w3 ⟨rfl, hb⟩
 have e4 := newer_allocH w3 (.cells #[vi 785, vi 1200] 31)
 have H3 := Lib.hid (And.intro (newer_trans (newer_trans HV2.out.2.2 hb) e4) (Whole.made w3 31 #[vi 785, vi 1200]))
 clear hb HV2 e4
 go_wp2_with fail
 obtain ⟨qb, hqb⟩ : ∃ qb, qb = w3.heap.size := ⟨_, rfl⟩
 rw [<- hqb] at H3 ⊢
 clear hqb
 refine (valley_any _).mono ?_
 rintro e w4 ⟨q2, a2, b2, c2, rfl, hv, hb⟩
 have H4 := Lib.hid (And.intro (newer_trans H3.out.1 hb) (And.intro (H3.out.2.below hb H3.out.2.lt) hv))
 clear hv hb H3
 go_wp2_with fail
 refine (val_worst_any q2 a2 b2 c2 w4 H4.out.2.2).mono ?_
 rintro e w5 ⟨A1, d1, rfl, hr, hb⟩
 have e6 := newer_allocH w5 (.cells #[vi 0, .slice A1 2 d1] 39)
 have H5 := Lib.hid (And.intro (newer_trans (newer_trans H4.out.1 hb) e6) (And.intro ((H4.out.2.1.below hb H4.out.2.1.lt).below e6 ((H4.out.2.1.below hb H4.out.2.1.lt).lt)) (And.intro (Whole.made w5 39 #[vi 0, .slice A1 2 d1]) ((hr.below e6).more e6.size))))
 clear hb hr e6 H4
 go_wp2_with fail
 obtain ⟨ub, hub⟩ : ∃ ub, ub = w5.heap.size := ⟨_, rfl⟩
 rw [<- hub] at H5 ⊢
 clear hub
 refine (valley_any _).mono ?_
 rintro e w6 ⟨q3, a3, b3, c3, rfl, hv, hb⟩
 have H6 := Lib.hid (And.intro (newer_trans H5.out.1 hb) (And.intro (H5.out.2.1.below hb H5.out.2.1.lt) (And.intro (H5.out.2.2.1.below hb H5.out.2.2.1.lt) (And.intro ((H5.out.2.2.2.below hb).more hb.size) hv))))
 clear hv hb H5
 go_wp2_with fail
 refine (val_margin_any q3 a3 b3 c3 w6 H6.out.2.2.2.2).mono ?_
 rintro e w7 ⟨rfl, hb⟩
 have H7 := Lib.hid (And.intro (newer_trans H6.out.1 hb) (And.intro (H6.out.2.1.below hb H6.out.2.1.lt) (And.intro (H6.out.2.2.1.below hb H6.out.2.2.1.lt) ((H6.out.2.2.2.1.below hb).more hb.size))))
 clear hb H6
 go_wp2_with fail
 refine (valley_any _).mono ?_
 rintro e w8 ⟨q4, a4, b4, c4, rfl, hv, hb⟩
 have H8 := Lib.hid (And.intro (newer_trans H7.out.1 hb) (And.intro (H7.out.2.1.below hb H7.out.2.1.lt) (And.intro (H7.out.2.2.1.below hb H7.out.2.2.1.lt) (And.intro ((H7.out.2.2.2.below hb).more hb.size) hv))))
 clear hv hb H7
 go_wp2_with fail
 refine (val_moves_any q4 a4 b4 c4 w8 H8.out.2.2.2.2).mono ?_
 rintro e w9 ⟨A2, d2, A3, d3, rfl, hr2, hr3, hb⟩
 have H9 := Lib.hid (And.intro (newer_trans H8.out.1 hb) (And.intro (H8.out.2.1.below hb H8.out.2.1.lt) (H8.out.2.2.1.below hb H8.out.2.2.1.lt)))
 have HR := Lib.hid (And.intro ((H8.out.2.2.2.1.below hb).more hb.size) (And.intro hr2 hr3))
 clear hb hr2 hr3 H8
 have q0 := H9.out.2.1.at 0 (v := vi 785) rfl
 have q1 := H9.out.2.1.at 1 (v := vi 1200) rfl
 have u0 := H9.out.2.2.at 0 (v := vi 0) rfl
 have u1 := H9.out.2.2.at 1 (v := .slice A1 2 d1) rfl
 go_upto_region 5 with fail
 refine wp_words (by kernel_rfl) (region_told_g 48 (by kernel_rfl) (by kernel_rfl) (fun W => Below w9.heap.size w9 W) newer (pickD [vIs (vi 0), vIs (.bool true), vIs (.bool true), vIs (vi 0), vIs (.bool true), vIs (.bool true), vIs (.bool true), vIs (vi 0), vIs (.bool true), vIs (.bool true), vIs (.bool true), vIs (vi 0), vIs (.bool true), vIs (.bool true), vIs (.bool true), vIs (.agg #[vi 785, vi 1200]), vIs (.agg #[vi 785, vi 1200]), vIs (.bool true), vIs (.bool true), vIs (.bool true), vIs (.pointer (some ⟨ub, 0, none⟩)), vIs (vi 0), vIs (.bool true), vIs (.bool true), vIs (.bool true), vIs (.pointer (some ⟨ub, 1, none⟩)), vIs (.slice A1 2 d1), vArr w9.heap.size 2 #[vi 0, vi 1], vIs (.bool true), vIs (.bool true), vIs (.bool true), vIs (vi 755), vIs (.bool true), vIs (.bool true), vIs (.bool true), vIs (vi 70), vIs (.bool true), vIs (.bool true), vIs (.bool true), vIs (.slice A2 2 d2), vArr w9.heap.size 2 #[vi 0, vi 1], vIs (.bool true), vIs (.bool true), vIs (.bool true), vIs (.slice A3 3 d3), vArr w9.heap.size 3 #[vi 0, vi 1, vi 2], vIs (.bool true), vIs (.bool true)]) ⟨trivial, trivial, trivial, (fun _ _ h => h), (fun _ _ h => h), trivial, trivial, (fun _ _ h => h), (fun _ _ h => h), trivial, trivial, (fun _ _ h => h), (fun _ _ h => h), trivial, trivial, (fun _ _ h => h), (fun _ _ h => h), (fun _ _ h => h), trivial, trivial, (fun _ _ h => h), (fun _ _ h => h), (fun _ _ h => h), trivial, trivial, (fun _ _ h => h), (fun _ _ h => h), (fun _ _ h => h), (fun _ _ h => h), trivial, trivial, (fun _ _ h => h), (fun _ _ h => h), trivial, trivial, (fun _ _ h => h), (fun _ _ h => h), trivial, trivial, (fun _ _ h => h), (fun _ _ h => h), (fun _ _ h => h), trivial, trivial, (fun _ _ h => h), (fun _ _ h => h), (fun _ _ h => h), trivial, trivial⟩ (fun h k => newer_trans h k) (pickD_stable _ ⟨vIs_st, vIs_st, vIs_st, vIs_st, vIs_st, vIs_st, vIs_st, vIs_st, vIs_st, vIs_st, vIs_st, vIs_st, vIs_st, vIs_st, vIs_st, vIs_st, vIs_st, vIs_st, vIs_st, vIs_st, vIs_st, vIs_st, vIs_st, vIs_st, vIs_st, vIs_st, vIs_st, vArr_st, vIs_st, vIs_st, vIs_st, vIs_st, vIs_st, vIs_st, vIs_st, vIs_st, vIs_st, vIs_st, vIs_st, vIs_st, vArr_st, vIs_st, vIs_st, vIs_st, vIs_st, vArr_st, vIs_st, vIs_st, trivial⟩) (Below.refl _ w9).drew (Below.refl _ _) ?_ ?_)
 ·refine ⟨?_, ?_, ?_, ?_, ?_, ?_, ?_, ?_, ?_, ?_, ?_, ?_, ?_, ?_, ?_, ?_, ?_, ?_, ?_, ?_, ?_, ?_, ?_, ?_, ?_, ?_, ?_, ?_, ?_, ?_, ?_, ?_, ?_, ?_, ?_, ?_, ?_, ?_, ?_, ?_, ?_, ?_, ?_, ?_, ?_, ?_, ?_, ?_, trivial⟩
  ·exact fun a W hG _ hO _ => kM 2 rfl (hO.slot 2 (by kernel_rfl)) rfl hG
  ·intro a W hG hR hO hp; have h35 : slotOf a 35 = vi 0 := hp.1; refine kY (v := .bool true) hG rfl ?_; simp [slotOf] at h35; simp [execOp, go_sem, h35]
  ·exact fun a W hG _ _ hp => kM 36 rfl hp.1 rfl hG
  ·exact fun a W hG _ hO _ => kM 5 rfl (hO.slot 5 (by kernel_rfl)) rfl hG
  ·intro a W hG hR hO hp; have h38 : slotOf a 38 = vi 0 := hp.1; refine kY (v := .bool true) hG rfl ?_; simp [slotOf] at h38; simp [execOp, go_sem, h38]
  ·intro a W hG hR hO hp; have h37 : slotOf a 37 = .bool true := hp.1; have h39 : slotOf a 39 = .bool true := hp.2.1; refine kY (v := .bool true) hG rfl ?_; simp [slotOf] at h37 h39; simp [execOp, go_sem, h37, h39]
  ·exact fun a W hG _ _ hp => kM 40 rfl hp.1 rfl hG
  ·exact fun a W hG _ hO _ => kM 7 rfl (hO.slot 7 (by kernel_rfl)) rfl hG
  ·intro a W hG hR hO hp; have h42 : slotOf a 42 = vi 0 := hp.1; refine kY (v := .bool true) hG rfl ?_; simp [slotOf] at h42; simp [execOp, go_sem, h42]
  ·intro a W hG hR hO hp; have h41 : slotOf a 41 = .bool true := hp.1; have h43 : slotOf a 43 = .bool true := hp.2.1; refine kY (v := .bool true) hG rfl ?_; simp [slotOf] at h41 h43; simp [execOp, go_sem, h41, h43]
  ·exact fun a W hG _ _ hp => kM 44 rfl hp.1 rfl hG
  ·exact fun a W hG _ hO _ => kM 10 rfl (hO.slot 10 (by kernel_rfl)) rfl hG
  ·intro a W hG hR hO hp; have h46 : slotOf a 46 = vi 0 := hp.1; refine kY (v := .bool true) hG rfl ?_; simp [slotOf] at h46; simp [execOp, go_sem, h46]
  ·intro a W hG hR hO hp; have h45 : slotOf a 45 = .bool true := hp.1; have h47 : slotOf a 47 = .bool true := hp.2.1; refine kY (v := .bool true) hG rfl ?_; simp [slotOf] at h45 h47; simp [execOp, go_sem, h45, h47]
  ·exact fun a W hG _ _ hp => kM 48 rfl hp.1 rfl hG
  ·intro a W hG hR hO hp; have h1 := hO.slot 1 (by kernel_rfl); have c0 := keep_cell q0 hG; have c1 := keep_cell q1 hG; refine kY (v := .agg #[vi 785, vi 1200]) hG rfl ?_; simp [slotOf] at h1; simp [execOp, go_sem, h1, c0, c1]
  ·intro a W hG hR hO hp
   refine wp_enters (f := 56) (args := #[vi 785, vi 1200]) ?_ ((span56_any 785 1200 W).mono ?_)
   ·skip
    simp [go_sem]
   ·rintro e w' ⟨rfl, hb⟩
    exact ⟨_, rfl, _, rfl, rfl, hb, below_next hG hb⟩
  ·intro a W hG hR hO hp; have h50 : slotOf a 50 = .agg #[vi 785, vi 1200] := hp.1; have h51 : slotOf a 51 = .agg #[vi 785, vi 1200] := hp.2.1; refine wp_yields (v := .bool true) ?_ ⟨_, rfl, rfl, Below.refl _ _, hG⟩; exact exec_eq31 rfl ((eval_slot a 50).trans h50) ((eval_slot a 51).trans h51)
  ·intro a W hG hR hO hp; have h49 : slotOf a 49 = .bool true := hp.1; have h52 : slotOf a 52 = .bool true := hp.2.1; refine kY (v := .bool true) hG rfl ?_; simp [slotOf] at h49 h52; simp [execOp, go_sem, h49, h52]
  ·exact fun a W hG _ _ hp => kM 53 rfl hp.1 rfl hG
  ·intro a W hG hR hO hp; have h3 := hO.slot 3 (by kernel_rfl); refine kY (v := .pointer (some ⟨ub, 0, none⟩)) hG rfl ?_; simp [slotOf] at h3; simp [execOp, go_sem, h3]
  ·intro a W hG hR hO hp; have h55 : slotOf a 55 = .pointer (some ⟨ub, 0, none⟩) := hp.1; have c0 := keep_cell u0 hG; refine kY (v := vi 0) hG rfl ?_; simp [slotOf] at h55; simp [execOp, go_sem, h55, c0]
  ·intro a W hG hR hO hp; have h56 : slotOf a 56 = vi 0 := hp.1; refine kY (v := .bool true) hG rfl ?_; simp [slotOf] at h56; simp [execOp, go_sem, h56]
  ·intro a W hG hR hO hp; have h54 : slotOf a 54 = .bool true := hp.1; have h57 : slotOf a 57 = .bool true := hp.2.1; refine kY (v := .bool true) hG rfl ?_; simp [slotOf] at h54 h57; simp [execOp, go_sem, h54, h57]
  ·exact fun a W hG _ _ hp => kM 58 rfl hp.1 rfl hG
  ·intro a W hG hR hO hp; have h3 := hO.slot 3 (by kernel_rfl); refine kY (v := .pointer (some ⟨ub, 1, none⟩)) hG rfl ?_; simp [slotOf] at h3; simp [execOp, go_sem, h3]
  ·intro a W hG hR hO hp; have h60 : slotOf a 60 = .pointer (some ⟨ub, 1, none⟩) := hp.1; have c0 := keep_cell u1 hG; refine kY (v := .slice A1 2 d1) hG rfl ?_; simp [slotOf] at h60; simp [execOp, go_sem, h60, c0]
  ·intro a W hG hR hO hp; refine wp_makes (v := .slice (some ⟨W.heap.size, 0, none⟩) 2 2) (W' := W.alloc (.cells #[vi 0, vi 1] 3)) ?_ ⟨_, rfl, ⟨_, rfl, hG.size, Whole.made _ _ _⟩, newer_allocH _ _, hG.alloc hG.size _⟩; simp [execOp, go_sem]
  ·intro a W hG hR hO hp
   have h61 : slotOf a 61 = .slice A1 2 d1 := hp.1
   have h62 := hp.2.1
   obtain ⟨nb, h62, hnb, hW⟩ := h62
   refine wp_enters (f := 36) (args := #[.slice A1 2 d1, .slice (some ⟨nb, 0, none⟩) 2 2]) ?_ ((lawInts [0, 1] [0, 1] A1 (some ⟨nb, 0, none⟩) d1 2 W (by simp) (by simp) ((HR.out.1.below hG).more hG.size) (row_of_whole (enc := intL) (s := 1) (fun _ => rfl) hW rfl)).mono ?_)
   ·simp [slotOf] at h61 h62
    simp [go_sem, h61, h62]
   ·rintro e w' ⟨rfl, hb⟩
    exact ⟨_, rfl, _, rfl, rfl, hb, below_next hG hb⟩
  ·intro a W hG hR hO hp; have h59 : slotOf a 59 = .bool true := hp.1; have h63 : slotOf a 63 = .bool true := hp.2.1; refine kY (v := .bool true) hG rfl ?_; simp [slotOf] at h59 h63; simp [execOp, go_sem, h59, h63]
  ·exact fun a W hG _ _ hp => kM 64 rfl hp.1 rfl hG
  ·exact fun a W hG _ hO _ => kM 4 rfl (hO.slot 4 (by kernel_rfl)) rfl hG
  ·intro a W hG hR hO hp; have h66 : slotOf a 66 = vi 755 := hp.1; refine kY (v := .bool true) hG rfl ?_; simp [slotOf] at h66; simp [execOp, go_sem, h66]
  ·intro a W hG hR hO hp; have h65 : slotOf a 65 = .bool true := hp.1; have h67 : slotOf a 67 = .bool true := hp.2.1; refine kY (v := .bool true) hG rfl ?_; simp [slotOf] at h65 h67; simp [execOp, go_sem, h65, h67]
  ·exact fun a W hG _ _ hp => kM 68 rfl hp.1 rfl hG
  ·exact fun a W hG _ hO _ => kM 6 rfl (hO.slot 6 (by kernel_rfl)) rfl hG
  ·intro a W hG hR hO hp; have h70 : slotOf a 70 = vi 70 := hp.1; refine kY (v := .bool true) hG rfl ?_; simp [slotOf] at h70; simp [execOp, go_sem, h70]
  ·intro a W hG hR hO hp; have h69 : slotOf a 69 = .bool true := hp.1; have h71 : slotOf a 71 = .bool true := hp.2.1; refine kY (v := .bool true) hG rfl ?_; simp [slotOf] at h69 h71; simp [execOp, go_sem, h69, h71]
  ·exact fun a W hG _ _ hp => kM 72 rfl hp.1 rfl hG
  ·exact fun a W hG _ hO _ => kM 8 rfl (hO.slot 8 (by kernel_rfl)) rfl hG
  ·intro a W hG hR hO hp; refine wp_makes (v := .slice (some ⟨W.heap.size, 0, none⟩) 2 2) (W' := W.alloc (.cells #[vi 0, vi 1] 3)) ?_ ⟨_, rfl, ⟨_, rfl, hG.size, Whole.made _ _ _⟩, newer_allocH _ _, hG.alloc hG.size _⟩; simp [execOp, go_sem]
  ·intro a W hG hR hO hp
   have h74 : slotOf a 74 = .slice A2 2 d2 := hp.1
   have h75 := hp.2.1
   obtain ⟨nb, h75, hnb, hW⟩ := h75
   refine wp_enters (f := 36) (args := #[.slice A2 2 d2, .slice (some ⟨nb, 0, none⟩) 2 2]) ?_ ((lawInts [0, 1] [0, 1] A2 (some ⟨nb, 0, none⟩) d2 2 W (by simp) (by simp) ((HR.out.2.1.below hG).more hG.size) (row_of_whole (enc := intL) (s := 1) (fun _ => rfl) hW rfl)).mono ?_)
   ·simp [slotOf] at h74 h75
    simp [go_sem, h74, h75]
   ·rintro e w' ⟨rfl, hb⟩
    exact ⟨_, rfl, _, rfl, rfl, hb, below_next hG hb⟩
  ·intro a W hG hR hO hp; have h73 : slotOf a 73 = .bool true := hp.1; have h76 : slotOf a 76 = .bool true := hp.2.1; refine kY (v := .bool true) hG rfl ?_; simp [slotOf] at h73 h76; simp [execOp, go_sem, h73, h76]
  ·exact fun a W hG _ _ hp => kM 77 rfl hp.1 rfl hG
  ·exact fun a W hG _ hO _ => kM 9 rfl (hO.slot 9 (by kernel_rfl)) rfl hG
  ·intro a W hG hR hO hp; refine wp_makes (v := .slice (some ⟨W.heap.size, 0, none⟩) 3 3) (W' := W.alloc (.cells #[vi 0, vi 1, vi 2] 3)) ?_ ⟨_, rfl, ⟨_, rfl, hG.size, Whole.made _ _ _⟩, newer_allocH _ _, hG.alloc hG.size _⟩; simp [execOp, go_sem]
  ·intro a W hG hR hO hp
   have h79 : slotOf a 79 = .slice A3 3 d3 := hp.1
   have h80 := hp.2.1
   obtain ⟨nb, h80, hnb, hW⟩ := h80
   refine wp_enters (f := 36) (args := #[.slice A3 3 d3, .slice (some ⟨nb, 0, none⟩) 3 3]) ?_ ((lawInts [0, 1, 2] [0, 1, 2] A3 (some ⟨nb, 0, none⟩) d3 3 W (by simp) (by simp) ((HR.out.2.2.below hG).more hG.size) (row_of_whole (enc := intL) (s := 1) (fun _ => rfl) hW rfl)).mono ?_)
   ·simp [slotOf] at h79 h80
    simp [go_sem, h79, h80]
   ·rintro e w' ⟨rfl, hb⟩
    exact ⟨_, rfl, _, rfl, rfl, hb, below_next hG hb⟩
  ·intro a W hG hR hO hp; have h78 : slotOf a 78 = .bool true := hp.1; have h81 : slotOf a 81 = .bool true := hp.2.1; refine kY (v := .bool true) hG rfl ?_; simp [slotOf] at h78 h81; simp [execOp, go_sem, h78, h81]
 ·intro wz hG hR
  rintro _ rfl _ rfl _ rfl _ rfl _ rfl _ rfl _ rfl _ rfl _ rfl _ rfl _ rfl _ rfl _ rfl _ rfl _ rfl _ rfl _ rfl _ rfl _ rfl _ rfl _ rfl _ rfl _ rfl _ rfl _ rfl _ rfl _ rfl _ hv62 _ rfl _ rfl _ rfl _ rfl _ rfl _ rfl _ rfl _ rfl _ rfl _ rfl _ rfl _ rfl _ hv75 _ rfl _ rfl _ rfl _ rfl _ hv80 _ rfl _ rfl
  change wpList _ _ _ _ _ _
  simp only [Act.put, List.setIfInBounds_toArray, List.set_cons_zero, List.set_cons_succ, List.drop_succ_cons, List.drop_zero]
  have HE := Lib.hid (newer_trans H9.out.1 hG)
  clear hG hR q0 q1 u0 u1
  go_wp2_with fail
  go_ret
  exact ⟨rfl, HE.out⟩
end

section
open Go.RowKit Go.Shelf Go.Deep
def thinS (s : Sd) : Bool := s.cols.all (fun l => decide (l.length <= 8)) && decide (s.cols.length <= 15)
theorem thinS_few {s : Sm} (h : thinS s.sd = true) : SmFew s /\ s.cs.length <= 15 /\ ∀ x ∈ s.cs, x.beds.length <= 8 := by
 unfold thinS at h
 rw [Bool.and_eq_true, decide_eq_true_eq, sd_len, sd_all, List.all_eq_true] at h
 have h1 : ∀ x ∈ s.cs, x.beds.length <= 8 := fun x hx => by simpa using h.1 x hx
 exact ⟨⟨by omega, fun x hx => by have := h1 x hx; omega⟩, h.2, h1⟩
set_option maxRecDepth 100000 in
set_option maxHeartbeats 2000000 in
theorem lawThin (s : Sm) (w : World) (hok : SmOk s w) : Calls Try.prog 16 #[smV s] w fun e w' => e = .returned (.bool (thinS s.sd)) /\ newer w w' := by
 have H0 := Lib.hid (And.intro (newer_allocH w (.cells (smC s) 24)) (Whole.made w 24 (smC s)))
 have HOK := Lib.hid hok
 have hf1 : ∀ x ∈ s.cs, ¬ x.beds.length <= 8 -> thinS s.sd = false := fun x hx h => by
  unfold thinS
  have : s.sd.cols.all (fun l => decide (l.length <= 8)) = false := by
   rw [sd_all, List.all_eq_false]
   exact ⟨x, hx, by simpa using h⟩
  rw [this]
  rfl
 have hf2 : ¬ s.cs.length <= 15 -> thinS s.sd = false := fun h => by
  unfold thinS
  rw [sd_len, decide_eq_false h, Bool.and_false]
 have ht : s.cs.length <= 15 -> early (fun x : Cl => !decide (x.beds.length <= 8)) s.cs s.cs.length -> thinS s.sd = true := fun h1 h2 => by
  unfold thinS
  rw [sd_len, decide_eq_true h1, Bool.and_true, sd_all, List.all_eq_true]
  intro x hx
  obtain ⟨i, hi⟩ := List.mem_iff_getElem?.1 hx
  have h3 := h2 i x (List.getElem?_eq_some_iff.1 hi).1 hi
  simpa using h3
 have HF := Lib.hid (And.intro hf1 (And.intro hf2 ht))
 clear hf1 hf2 ht
 obtain ⟨r, hr⟩ : ∃ r, r = thinS s.sd := ⟨_, rfl⟩
 rw [<- hr] at HF ⊢
 clear hr hok
 go_enter Try.func16, Try.ntmps16
 go_wp2_with fail
 go_loopw [3] (fun s3 wr => ∃ k : Nat, k <= s.cs.length /\ k <= 16 /\ s3 = vi k /\ newer w wr /\ Whole wr w.heap.size 24 (smC s) /\ early (fun x : Cl => !decide (x.beds.length <= 8)) s.cs k) (fun s3 _ => s.cs.length - (intOf s3).toNat)
 case atStart => exact ⟨0, Nat.zero_le _, by omega, rfl, H0.out.1, H0.out.2, early_zero _ _⟩
 case round =>
  obtain ⟨k, hk, hk16, rfl, hbw, hbx, he⟩ := hrel
  clear H0
  have x0 := hbx.at 0 (v := .slice s.a s.cs.length s.c) rfl
  have HE := Lib.hid (And.intro hbw (And.intro hbx he))
  by_cases hlt : k < s.cs.length
  ·by_cases h15 : 15 < k
   ·have hrf : r = false := HF.out.2.1 (by omega)
    subst hrf
    clear hbx hbw he
    go_wp2_with fail
    go_ret
    exact ⟨rfl, HE.out.1⟩
   ·obtain ⟨x, hx⟩ := get_of_lt hlt
    obtain ⟨b1, o1, ea, _, cx⟩ := rowC (HOK.out.next hbw).cs hx
    have HX := Lib.hid hx
    have HEA := Lib.hid ea
    rw [ea] at x0
    clear hbx hbw he hx ea
    by_cases ha : x.beds.length <= 8
    ·have HN := Lib.hid (early_succ HE.out.2.2 HX.out (by simp [ha]))
     go_wp2_with fail
     refine ⟨⟨k + 1, by omega, by omega, rfl, HE.out.1, HE.out.2.1, HN.out⟩, ?_⟩
     simp [intOf]
     omega
    ·have hrf : r = false := HF.out.1 x (List.mem_of_getElem? HX.out) ha
     subst hrf
     go_wp2_with fail
     go_ret
     exact ⟨rfl, HE.out.1⟩
  ·obtain rfl : k = s.cs.length := by omega
   clear hbx hbw he
   by_cases h15 : s.cs.length <= 15
   ·have hrf : r = true := HF.out.2.2 h15 HE.out.2.2
    subst hrf
    go_wp2_with fail
    go_ret
    exact ⟨ret_bool (decide_eq_true (by omega)), HE.out.1⟩
   ·have hrf : r = false := HF.out.2.1 h15
    subst hrf
    go_wp2_with fail
    go_ret
    exact ⟨ret_bool (decide_eq_false (by omega)), HE.out.1⟩
set_option maxHeartbeats 400000 in
theorem refUp_any (r : Rg) (most : Int) (w : World) : Calls Try.prog 68 #[rgV r, vi most] w fun e w' => e = .returned (.bool (rgU r most)) /\ newer w w' := by
 obtain ⟨lo, hi⟩ := r
 unfold rgU
 dsimp only
 by_cases h1 : 0 <= lo
 ·by_cases h2 : lo <= hi
  ·by_cases h3 : hi <= most
   all_goals
    (go_enter Try.func68, Try.ntmps68
     go_wp2
     go_ret
     exact ⟨ret_bool (by simp <;> omega), (Below.refl _ _).alloc (Nat.le_refl _) _⟩)
  ·go_enter Try.func68, Try.ntmps68
   go_wp2
   go_ret
   exact ⟨ret_bool (by simp <;> omega), (Below.refl _ _).alloc (Nat.le_refl _) _⟩
 ·go_enter Try.func68, Try.ntmps68
  go_wp2
  go_ret
  exact ⟨ret_bool (by simp <;> omega), (Below.refl _ _).alloc (Nat.le_refl _) _⟩
def colP (n : Nat) (x : Cl) : Bool := inB x.beds.length 1 5 && decide (x.beds.length = n) && x.beds.all bdB
set_option maxRecDepth 100000 in
set_option maxHeartbeats 2000000 in
theorem right_any (s : Sm) (w : World) (hok : SmOk s w) (few : SmFew s) : Calls Try.prog 26 #[smV s] w fun e w' => e = .returned (.bool (slopeB s.sd)) /\ newer w w' := by
 have H0 := Lib.hid (And.intro (newer_allocH w (.cells (smC s) 24)) (Whole.made w 24 (smC s)))
 have HOK := Lib.hid hok
 have HFW := Lib.hid few
 have hf1 : inB s.cs.length 1 12 = false -> slopeB s.sd = false := fun h => by unfold slopeB; rw [sd_len, h]; rfl
 have hf2 : inB s.least 1 4 = false -> slopeB s.sd = false := fun h => by
  unfold slopeB
  rw [show s.sd.least = s.least from rfl, h, Bool.and_false, Bool.false_and]
 have hf3 : ∀ x ∈ s.cs, colP s.sd.n x = false -> slopeB s.sd = false := fun x hx h => by
  cases hv : slopeB s.sd with
  | false => rfl
  | true =>
   have hs := sdOk_iff.1 hv
   have hm : x.beds ∈ s.sd.cols := List.mem_map.2 ⟨x, hx, rfl⟩
   have h1 := hs.len _ hm
   have h2 := hs.beds
   have h3 : x.beds.all bdB = true := List.all_eq_true.2 fun b hb => hs.bd _ hm b hb
   unfold colP at h
   rw [h3, decide_eq_true h1, show inB x.beds.length 1 5 = true by simp [inB]; omega] at h
   cases h
 have ht : inB s.cs.length 1 12 = true -> inB s.least 1 4 = true -> early (fun x => !colP s.sd.n x) s.cs s.cs.length -> slopeB s.sd = true := fun h1 h2 h3 => by
  have h4 : ∀ x ∈ s.cs, colP s.sd.n x = true := fun x hx => by
   obtain ⟨i, hi⟩ := List.mem_iff_getElem?.1 hx
   have h5 := h3 i x (List.getElem?_eq_some_iff.1 hi).1 hi
   simpa using h5
  have h6 : 0 < s.cs.length := by simp [inB] at h1; omega
  obtain ⟨x0, hx0⟩ := get_of_lt h6
  have h7 := h4 x0 (List.mem_of_getElem? hx0)
  have h8 := sd_n hx0
  unfold slopeB
  rw [sd_len, h1, show s.sd.least = s.least from rfl, h2, sd_all]
  unfold colP at h7
  rw [Bool.and_eq_true, Bool.and_eq_true] at h7
  rw [h8, h7.1.1, Bool.true_and, Bool.true_and, Bool.true_and, List.all_eq_true, <- h8]
  intro x hx
  have h9 := h4 x hx
  unfold colP at h9
  rw [Bool.and_eq_true, Bool.and_eq_true] at h9
  rw [Bool.and_eq_true]
  exact ⟨h9.1.2, h9.2⟩
 have HF := Lib.hid (And.intro hf1 (And.intro hf2 (And.intro hf3 ht)))
 clear hf1 hf2 hf3 ht
 obtain ⟨r, hr⟩ : ∃ r, r = slopeB s.sd := ⟨_, rfl⟩
 rw [<- hr] at HF ⊢
 have x0 := H0.out.2.at 0 (v := .slice s.a s.cs.length s.c) rfl
 have x1 := H0.out.2.at 1 (v := vi s.least) rfl
 have C1 := Lib.hid (fun W => in_any s.cs.length 1 12 W)
 have C2 := Lib.hid (fun W => in_any s.least 1 4 W)
 clear hr hok few
 cases q1 : inB s.cs.length 1 12 with
 | false =>
  have hrf := HF.out.1 q1
  subst hrf
  rw [q1] at C1
  clear q1
  go_enter Try.func26, Try.ntmps26
  go_wp2_with fail
  refine (C1.out _).mono ?_
  rintro e w2 ⟨rfl, rfl⟩
  go_wp2_with fail
  go_ret
  exact ⟨rfl, H0.out.1⟩
 | true =>
  cases q2 : inB s.least 1 4 with
  | false =>
   have hrf := HF.out.2.1 q2
   subst hrf
   rw [q1] at C1
   rw [q2] at C2
   clear q1 q2
   go_enter Try.func26, Try.ntmps26
   go_wp2_with fail
   refine (C1.out _).mono ?_
   rintro e w2 ⟨rfl, rfl⟩
   go_wp2_with fail
   refine (C2.out _).mono ?_
   rintro e w2 ⟨rfl, rfl⟩
   go_wp2_with fail
   go_ret
   exact ⟨rfl, H0.out.1⟩
  | true =>
   have hl1 : 1 <= s.cs.length /\ s.cs.length <= 12 := by simp [inB] at q1; omega
   have HT := Lib.hid (HF.out.2.2.2 q1 q2)
   rw [q1] at C1
   rw [q2] at C2
   obtain ⟨y0, hy0⟩ := get_of_lt (l := s.cs) (k := 0) (by omega)
   have hyn : y0.beds.length = s.sd.n := (sd_n hy0).symm
   obtain ⟨b1, o1, ea, _, cy⟩ := rowC (HOK.out.next H0.out.1).cs hy0
   simp only [Nat.add_zero] at cy
   obtain ⟨n, hn⟩ : ∃ n, n = s.sd.n := ⟨_, rfl⟩
   rw [hyn, <- hn] at cy
   rw [<- hn] at HF HT
   have hnb : n <= 1000 := by have := HFW.out.bd y0 (List.mem_of_getElem? hy0); omega
   have HCY := Lib.hid (And.intro cy ea)
   have hcne : ¬ (s.cs = []) := by intro h; rw [h] at hl1; simp at hl1
   rw [ea] at x0
   clear q1 q2 hy0 hyn hn cy ea
   go_enter Try.func26, Try.ntmps26
   go_wp2_with fail
   refine (C1.out _).mono ?_
   rintro e w2 ⟨rfl, rfl⟩
   go_wp2_with fail
   refine (C2.out _).mono ?_
   rintro e w2 ⟨rfl, rfl⟩
   go_wp2_with fail
   go_loopw [3] (fun s3 wr => ∃ k : Nat, k <= s.cs.length /\ s3 = vi k /\ newer w wr /\ Whole wr w.heap.size 24 (smC s) /\ newer (w.alloc (.cells (smC s) 24)) wr /\ early (fun x => !colP n x) s.cs k) (fun s3 _ => s.cs.length - (intOf s3).toNat)
   case atStart => exact ⟨0, Nat.zero_le _, rfl, H0.out.1, H0.out.2, Below.refl _ _, early_zero _ _⟩
   case round =>
    obtain ⟨k, hk, rfl, hbw, hbx, hbz, he⟩ := hrel
    clear H0 x0 x1 C1 C2
    have x0 := hbx.at 0 (v := .slice s.a s.cs.length s.c) rfl
    rw [HCY.out.2] at x0
    have cy := keep_cell HCY.out.1 hbz
    have HE := Lib.hid (And.intro hbw (And.intro hbx (And.intro hbz he)))
    clear hbx hbz he
    by_cases hlt : k < s.cs.length
    ·obtain ⟨x, hx⟩ := get_of_lt hlt
     obtain ⟨b2, o2, ea, _, cx⟩ := rowC (HOK.out.next hbw).cs hx
     rw [HCY.out.2] at ea
     obtain ⟨rfl, rfl⟩ : b1 = b2 /\ o1 = o2 := by simpa using ea
     have HX := Lib.hid hx
     have hxl := HFW.out.bd x (List.mem_of_getElem? hx)
     have HXM := Lib.hid (List.mem_of_getElem? hx)
     have hki : (k : Int) < s.cs.length := by omega
     have C3 := Lib.hid (fun W => in_any x.beds.length 1 5 W)
     have hcp : colP n x = (inB x.beds.length 1 5 && decide (x.beds.length = n) && x.beds.all bdB) := rfl
     clear hx ea hbw
     cases q3 : inB x.beds.length 1 5 with
     | false =>
      have hrf := HF.out.2.2.1 x HXM.out (by rw [hcp, q3]; rfl)
      subst hrf
      rw [q3] at C3
      clear q3 hcp
      go_upto_region 6 with fail
      refine wp_words (by kernel_rfl) (region_told_u 21 (by kernel_rfl) (by kernel_rfl) [false, false, false, false, false, false, false, false, false, true, true, true, true, true, true, true, true, true, true, true, true] (fun W => Below wr.heap.size wr W) newer [vIs (.pointer (some ⟨w.heap.size, 0, none⟩)), vIs (.slice (some ⟨b1, o1, none⟩) s.cs.length s.c), vIs (.int .i64 k), vIs (.pointer (some ⟨b1, o1 + k, none⟩)), vIs (.slice x.a x.beds.length x.cp), vIs (.int .i64 x.beds.length), vIs (.bool false), vIs (.bool true), vIs (.bool true), vIs (undef), vIs (undef), vIs (undef), vIs (undef), vIs (undef), vIs (undef), vIs (undef), vIs (undef), vIs (undef), vIs (undef), vIs (undef), vIs (undef)] (by repeat' first | refine And.intro ?_ ?_ | exact trivial | exact rfl | (intro v W h; obtain rfl : v = _ := h; first | rfl | (simp; done) | (simp [undef]; done))) (by repeat' first | refine And.intro ?_ ?_ | exact trivial | exact (fun h => Bool.noConfusion (show false = true from h)) | exact (fun _ _ => rfl)) (fun h k => newer_trans h k) (pickD_stable _ (by repeat' first | refine And.intro ?_ ?_ | exact trivial | exact vIs_st)) (Below.refl _ wr).drew (Below.refl _ _) ?_ ?_)
      ·refine ⟨.inr ?_, .inr ?_, .inr ?_, .inr ?_, .inr ?_, .inr ?_, .inr ?_, .inr ?_, .inr ?_, .inl rfl, .inl rfl, .inl rfl, .inl rfl, .inl rfl, .inl rfl, .inl rfl, .inl rfl, .inl rfl, .inl rfl, .inl rfl, .inl rfl, trivial⟩
       ·intro a W hG hR hO hp; have h1 := hO.slot 1 (by kernel_rfl); refine kY (v := .pointer (some ⟨w.heap.size, 0, none⟩)) hG rfl ?_; simp [slotOf] at h1; simp [execOp, go_sem, h1]
       ·intro a W hG hR hO hp; have h24 : slotOf a 24 = .pointer (some ⟨w.heap.size, 0, none⟩) := hp.1; have c0 := keep_cell x0 hG; refine kY (v := .slice (some ⟨b1, o1, none⟩) s.cs.length s.c) hG rfl ?_; simp [slotOf] at h24; simp [execOp, go_sem, h24, c0]
       ·exact fun a W hG _ hO _ => kM 3 rfl (hO.slot 3 (by kernel_rfl)) rfl hG
       ·intro a W hG hR hO hp; have h25 : slotOf a 25 = .slice (some ⟨b1, o1, none⟩) s.cs.length s.c := hp.1; have h26 : slotOf a 26 = .int .i64 k := hp.2.1; refine kY (v := .pointer (some ⟨b1, o1 + k, none⟩)) hG rfl ?_; simp [slotOf] at h25 h26; simp [execOp, go_sem, h25, h26, hki]
       ·intro a W hG hR hO hp; have h27 : slotOf a 27 = .pointer (some ⟨b1, o1 + k, none⟩) := hp.1; have c0 := keep_cell cx hG; refine kY (v := .slice x.a x.beds.length x.cp) hG rfl ?_; simp [slotOf] at h27; simp [execOp, go_sem, h27, c0]
       ·intro a W hG hR hO hp; have h28 : slotOf a 28 = .slice x.a x.beds.length x.cp := hp.1; refine kY (v := .int .i64 x.beds.length) hG rfl ?_; simp [slotOf] at h28; simp [go_sem, h28]
       ·intro a W hG hR hO hp
        have h29 : slotOf a 29 = .int .i64 x.beds.length := hp.1
        refine wp_enters (f := 50) (args := #[vi x.beds.length, vi 1, vi 5]) ?_ ((C3.out W).mono ?_)
        ·simp [slotOf] at h29
         simp [go_sem, h29]
        ·rintro e w' ⟨rfl, rfl⟩
         exact ⟨_, rfl, _, rfl, rfl, Below.refl _ _, hG⟩
       ·intro a W hG hR hO hp; have h30 : slotOf a 30 = .bool false := hp.1; refine kY (v := .bool true) hG rfl ?_; simp [slotOf] at h30; simp [execOp, go_sem, h30]
       ·exact fun a W hG _ _ hp => kM 31 rfl hp.1 rfl hG
      ·intro W hG hR
       rintro _ rfl _ rfl _ rfl _ rfl _ rfl _ rfl _ rfl _ rfl _ rfl _ rfl _ rfl _ rfl _ rfl _ rfl _ rfl _ rfl _ rfl _ rfl _ rfl _ rfl _ rfl
       change wpList _ _ _ _ _ _
       simp only [Act.put, List.setIfInBounds_toArray, List.set_cons_zero, List.set_cons_succ, List.drop_succ_cons, List.drop_zero]
       have HE2 := Lib.hid (newer_trans HE.out.1 hG)
       clear hG hR cy cx x0
       go_wp2_with fail
       go_ret
       exact ⟨rfl, HE2.out⟩
     | true =>
      rw [q3] at C3
      by_cases hln : x.beds.length = n
      ·have HB := Lib.hid (fun b (hb : b ∈ x.beds) (h : bdB b = false) => HF.out.2.2.1 x HXM.out (by
        rw [hcp, q3, show x.beds.all bdB = false from List.all_eq_false.2 ⟨b, hb, by simp [h]⟩, Bool.and_false]))
       have HBT : Hid (early (fun b => !bdB b) x.beds x.beds.length -> colP n x = true) := Lib.hid (fun h => by
        rw [hcp, q3, decide_eq_true hln, Bool.true_and, Bool.true_and, List.all_eq_true]
        intro b hb
        obtain ⟨i, hi⟩ := List.mem_iff_getElem?.1 hb
        have h1 := h i b (List.getElem?_eq_some_iff.1 hi).1 hi
        simpa using h1)
       have hne : ((x.beds.length : Int) != n) = false := by simp [hln]
       clear q3 hcp hln
       go_upto_region 6 with fail
       refine wp_words (by kernel_rfl) (region_told_u 21 (by kernel_rfl) (by kernel_rfl) [false, false, false, false, false, false, false, false, false, false, false, false, false, false, false, false, false, false, false, false, false] (fun W => Below wr.heap.size wr W) newer [vIs (.pointer (some ⟨w.heap.size, 0, none⟩)), vIs (.slice (some ⟨b1, o1, none⟩) s.cs.length s.c), vIs (.int .i64 k), vIs (.pointer (some ⟨b1, o1 + k, none⟩)), vIs (.slice x.a x.beds.length x.cp), vIs (.int .i64 x.beds.length), vIs (.bool true), vIs (.bool false), vIs (.bool false), vIs (.pointer (some ⟨w.heap.size, 0, none⟩)), vIs (.slice (some ⟨b1, o1, none⟩) s.cs.length s.c), vIs (.int .i64 k), vIs (.pointer (some ⟨b1, o1 + k, none⟩)), vIs (.slice x.a x.beds.length x.cp), vIs (.int .i64 x.beds.length), vIs (.pointer (some ⟨w.heap.size, 0, none⟩)), vIs (.slice (some ⟨b1, o1, none⟩) s.cs.length s.c), vIs (.pointer (some ⟨b1, o1, none⟩)), vIs (.slice y0.a n y0.cp), vIs (.int .i64 n), vIs (.bool false)] (by repeat' first | refine And.intro ?_ ?_ | exact trivial | exact rfl | (intro v W h; obtain rfl : v = _ := h; first | rfl | (simp; done) | (simp [undef]; done))) (by repeat' first | refine And.intro ?_ ?_ | exact trivial | exact (fun h => Bool.noConfusion (show false = true from h)) | exact (fun _ _ => rfl)) (fun h k => newer_trans h k) (pickD_stable _ (by repeat' first | refine And.intro ?_ ?_ | exact trivial | exact vIs_st)) (Below.refl _ wr).drew (Below.refl _ _) ?_ ?_)
       ·refine ⟨.inr ?_, .inr ?_, .inr ?_, .inr ?_, .inr ?_, .inr ?_, .inr ?_, .inr ?_, .inr ?_, .inr ?_, .inr ?_, .inr ?_, .inr ?_, .inr ?_, .inr ?_, .inr ?_, .inr ?_, .inr ?_, .inr ?_, .inr ?_, .inr ?_, trivial⟩
        ·intro a W hG hR hO hp; have h1 := hO.slot 1 (by kernel_rfl); refine kY (v := .pointer (some ⟨w.heap.size, 0, none⟩)) hG rfl ?_; simp [slotOf] at h1; simp [execOp, go_sem, h1]
        ·intro a W hG hR hO hp; have h24 : slotOf a 24 = .pointer (some ⟨w.heap.size, 0, none⟩) := hp.1; have c0 := keep_cell x0 hG; refine kY (v := .slice (some ⟨b1, o1, none⟩) s.cs.length s.c) hG rfl ?_; simp [slotOf] at h24; simp [execOp, go_sem, h24, c0]
        ·exact fun a W hG _ hO _ => kM 3 rfl (hO.slot 3 (by kernel_rfl)) rfl hG
        ·intro a W hG hR hO hp; have h25 : slotOf a 25 = .slice (some ⟨b1, o1, none⟩) s.cs.length s.c := hp.1; have h26 : slotOf a 26 = .int .i64 k := hp.2.1; refine kY (v := .pointer (some ⟨b1, o1 + k, none⟩)) hG rfl ?_; simp [slotOf] at h25 h26; simp [execOp, go_sem, h25, h26, hki]
        ·intro a W hG hR hO hp; have h27 : slotOf a 27 = .pointer (some ⟨b1, o1 + k, none⟩) := hp.1; have c0 := keep_cell cx hG; refine kY (v := .slice x.a x.beds.length x.cp) hG rfl ?_; simp [slotOf] at h27; simp [execOp, go_sem, h27, c0]
        ·intro a W hG hR hO hp; have h28 : slotOf a 28 = .slice x.a x.beds.length x.cp := hp.1; refine kY (v := .int .i64 x.beds.length) hG rfl ?_; simp [slotOf] at h28; simp [go_sem, h28]
        ·intro a W hG hR hO hp
         have h29 : slotOf a 29 = .int .i64 x.beds.length := hp.1
         refine wp_enters (f := 50) (args := #[vi x.beds.length, vi 1, vi 5]) ?_ ((C3.out W).mono ?_)
         ·simp [slotOf] at h29
          simp [go_sem, h29]
         ·rintro e w' ⟨rfl, rfl⟩
          exact ⟨_, rfl, _, rfl, rfl, Below.refl _ _, hG⟩
        ·intro a W hG hR hO hp; have h30 : slotOf a 30 = .bool true := hp.1; refine kY (v := .bool false) hG rfl ?_; simp [slotOf] at h30; simp [execOp, go_sem, h30]
        ·exact fun a W hG _ _ hp => kM 31 rfl hp.1 rfl hG
        ·intro a W hG hR hO hp; have h1 := hO.slot 1 (by kernel_rfl); refine kY (v := .pointer (some ⟨w.heap.size, 0, none⟩)) hG rfl ?_; simp [slotOf] at h1; simp [execOp, go_sem, h1]
        ·intro a W hG hR hO hp; have h33 : slotOf a 33 = .pointer (some ⟨w.heap.size, 0, none⟩) := hp.1; have c0 := keep_cell x0 hG; refine kY (v := .slice (some ⟨b1, o1, none⟩) s.cs.length s.c) hG rfl ?_; simp [slotOf] at h33; simp [execOp, go_sem, h33, c0]
        ·exact fun a W hG _ hO _ => kM 3 rfl (hO.slot 3 (by kernel_rfl)) rfl hG
        ·intro a W hG hR hO hp; have h34 : slotOf a 34 = .slice (some ⟨b1, o1, none⟩) s.cs.length s.c := hp.1; have h35 : slotOf a 35 = .int .i64 k := hp.2.1; refine kY (v := .pointer (some ⟨b1, o1 + k, none⟩)) hG rfl ?_; simp [slotOf] at h34 h35; simp [execOp, go_sem, h34, h35, hki]
        ·intro a W hG hR hO hp; have h36 : slotOf a 36 = .pointer (some ⟨b1, o1 + k, none⟩) := hp.1; have c0 := keep_cell cx hG; refine kY (v := .slice x.a x.beds.length x.cp) hG rfl ?_; simp [slotOf] at h36; simp [execOp, go_sem, h36, c0]
        ·intro a W hG hR hO hp; have h37 : slotOf a 37 = .slice x.a x.beds.length x.cp := hp.1; refine kY (v := .int .i64 x.beds.length) hG rfl ?_; simp [slotOf] at h37; simp [go_sem, h37]
        ·intro a W hG hR hO hp; have h1 := hO.slot 1 (by kernel_rfl); refine kY (v := .pointer (some ⟨w.heap.size, 0, none⟩)) hG rfl ?_; simp [slotOf] at h1; simp [execOp, go_sem, h1]
        ·intro a W hG hR hO hp; have h39 : slotOf a 39 = .pointer (some ⟨w.heap.size, 0, none⟩) := hp.1; have c0 := keep_cell x0 hG; refine kY (v := .slice (some ⟨b1, o1, none⟩) s.cs.length s.c) hG rfl ?_; simp [slotOf] at h39; simp [execOp, go_sem, h39, c0]
        ·intro a W hG hR hO hp; have h40 : slotOf a 40 = .slice (some ⟨b1, o1, none⟩) s.cs.length s.c := hp.1; refine kY (v := .pointer (some ⟨b1, o1, none⟩)) hG rfl ?_; simp [slotOf] at h40; simp [execOp, go_sem, h40, hcne]
        ·intro a W hG hR hO hp; have h41 : slotOf a 41 = .pointer (some ⟨b1, o1, none⟩) := hp.1; have c0 := keep_cell cy hG; refine kY (v := .slice y0.a n y0.cp) hG rfl ?_; simp [slotOf] at h41; simp [execOp, go_sem, h41, c0]
        ·intro a W hG hR hO hp; have h42 : slotOf a 42 = .slice y0.a n y0.cp := hp.1; refine kY (v := .int .i64 n) hG rfl ?_; simp [slotOf] at h42; simp [go_sem, h42]
        ·intro a W hG hR hO hp; have h38 : slotOf a 38 = .int .i64 x.beds.length := hp.1; have h43 : slotOf a 43 = .int .i64 n := hp.2.1; refine kY (v := .bool false) hG rfl ?_; simp [slotOf] at h38 h43; simp [execOp, go_sem, h38, h43, hne]
       ·intro W hG hR
        rintro _ rfl _ rfl _ rfl _ rfl _ rfl _ rfl _ rfl _ rfl _ rfl _ rfl _ rfl _ rfl _ rfl _ rfl _ rfl _ rfl _ rfl _ rfl _ rfl _ rfl _ rfl
        change wpList _ _ _ _ _ _
        simp only [Act.put, List.setIfInBounds_toArray, List.set_cons_zero, List.set_cons_succ, List.drop_succ_cons, List.drop_zero]
        have HE2 := Lib.hid (And.intro (newer_trans HE.out.1 hG) (And.intro (HE.out.2.1.below hG HE.out.2.1.lt) (newer_trans HE.out.2.2.1 hG)))
        clear hG hR cy cx x0 hne
        go_wp2_with fail
        go_loopw [4] (fun s4 wr => ∃ j : Nat, j <= x.beds.length /\ s4 = vi j /\ newer w wr /\ Whole wr w.heap.size 24 (smC s) /\ newer (w.alloc (.cells (smC s) 24)) wr /\ early (fun b => !bdB b) x.beds j) (fun s4 _ => x.beds.length - (intOf s4).toNat)
        case atStart => exact ⟨0, Nat.zero_le _, rfl, HE2.out.1, HE2.out.2.1, HE2.out.2.2, early_zero _ _⟩
        case round =>
         obtain ⟨j, hj, rfl, hbw, hbx, hbz, he⟩ := hrel
         have x0 := hbx.at 0 (v := .slice s.a s.cs.length s.c) rfl
         rw [HCY.out.2] at x0
         have HE3 := Lib.hid (And.intro hbw (And.intro hbx (And.intro hbz he)))
         obtain ⟨b3, o3, ea, _, cx⟩ := rowC (HOK.out.next hbw).cs HX.out
         rw [HCY.out.2] at ea
         obtain ⟨rfl, rfl⟩ : b1 = b3 /\ o1 = o3 := by simpa using ea
         clear HE2 ea hbx hbz he
         by_cases hlt2 : j < x.beds.length
         ·obtain ⟨b, hb⟩ := get_of_lt hlt2
          obtain ⟨b4, o4, e4, _, d0, d1, d2, d3, d4, d5, d6, d7⟩ := row8 ((HOK.out.next hbw).bd x HXM.out) hb
          rw [e4] at cx
          have hji : (j : Int) < x.beds.length := by omega
          have HBM := Lib.hid (And.intro hb (List.mem_of_getElem? hb))
          have D1 := Lib.hid (fun W => in_any b.drive (-100000) 100000 W)
          have D2 := Lib.hid (fun W => in_any b.normal 0 100000 W)
          have D3 := Lib.hid (fun W => refUp_any b.fr 2000 W)
          have D4 := Lib.hid (fun W => refUp_any b.co 100000 W)
          have D5 := Lib.hid (fun W => refUp_any b.wa 100000 W)
          have hbd : bdB b = (inB b.drive (-100000) 100000 && inB b.normal 0 100000 && rgU b.fr 2000 && rgU b.co 100000 && rgU b.wa 100000) := rfl
          have e5 := newer_allocH wr (.cells (bdC b) 69)
          have HE4 := Lib.hid (And.intro (newer_trans HE3.out.1 e5) (And.intro (HE3.out.2.1.below e5 HE3.out.2.1.lt) (And.intro (newer_trans HE3.out.2.2.1 e5) (Whole.made wr 69 (bdC b)))))
          clear hb hbw e4 e5
          go_upto_region 12 with fail
          refine genQ (fun X => newer w X /\ Whole X w.heap.size 24 (smC s) /\ newer (w.alloc (.cells (smC s) 24)) X /\ Whole X wr.heap.size 69 (bdC b)) HE4.out ?_
          clear HE4 d0 d1 d2 d3 d4 d5 d6 d7 cx x0
          obtain ⟨bb, hbb⟩ : ∃ bb, bb = wr.heap.size := ⟨_, rfl⟩
          rw [<- hbb]
          rintro w5 ⟨p1, p2, p3, p4⟩
          have z0 := p4.at 0 (v := vi b.drive) rfl
          have z1 := p4.at 1 (v := vi b.normal) rfl
          have z2 := p4.at 2 (v := vi b.fr.lo) rfl
          have z3 := p4.at 3 (v := vi b.fr.hi) rfl
          have z4 := p4.at 4 (v := vi b.co.lo) rfl
          have z5 := p4.at 5 (v := vi b.co.hi) rfl
          have z6 := p4.at 6 (v := vi b.wa.lo) rfl
          have z7 := p4.at 7 (v := vi b.wa.hi) rfl
          have HE5 := Lib.hid (And.intro p1 (And.intro p2 p3))
          clear p1 p2 p3 p4 hbb
          cases t1 : inB b.drive (-100000) 100000 with
          | false =>
           rw [t1] at D1
           have hrf := HB.out b HBM.out.2 (by rw [hbd, t1]; simp)
           subst hrf
           clear t1 hbd
           go_wp2_with fail
           refine (D1.out _).mono ?_
           rintro e w6 ⟨rfl, rfl⟩
           go_wp2_with fail
           go_ret
           exact ⟨rfl, HE5.out.1⟩
          | true =>
           rw [t1] at D1
           cases t2 : inB b.normal 0 100000 with
           | false =>
            rw [t2] at D2
            have hrf := HB.out b HBM.out.2 (by rw [hbd, t1, t2]; simp)
            subst hrf
            clear t1 t2 hbd
            go_wp2_with fail
            refine (D1.out _).mono ?_
            rintro e w6 ⟨rfl, rfl⟩
            go_wp2_with fail
            refine (D2.out _).mono ?_
            rintro e w6 ⟨rfl, rfl⟩
            go_wp2_with fail
            go_ret
            exact ⟨rfl, HE5.out.1⟩
           | true =>
            rw [t2] at D2
            cases t3 : rgU b.fr 2000 with
            | false =>
             rw [t3] at D3
             have hrf := HB.out b HBM.out.2 (by rw [hbd, t1, t2, t3]; simp)
             subst hrf
             clear t1 t2 t3 hbd
             go_wp2_with fail
             refine (D1.out _).mono ?_
             rintro e w6 ⟨rfl, rfl⟩
             go_wp2_with fail
             refine (D2.out _).mono ?_
             rintro e w6 ⟨rfl, rfl⟩
             go_wp2_with fail
             refine (D3.out _).mono ?_
             rintro e v3 ⟨rfl, hb⟩
             have HF3 := Lib.hid (And.intro (And.intro (newer_trans HE5.out.1 hb) (And.intro (HE5.out.2.1.below hb HE5.out.2.1.lt) (newer_trans HE5.out.2.2 hb))) hb)
             clear hb
             have y4_3 := keep_cell z4 HF3.out.2
             have y5_3 := keep_cell z5 HF3.out.2
             have y6_3 := keep_cell z6 HF3.out.2
             have y7_3 := keep_cell z7 HF3.out.2
             go_wp2_with fail
             go_ret
             exact ⟨rfl, HF3.out.1.1⟩
            | true =>
             rw [t3] at D3
             cases t4 : rgU b.co 100000 with
             | false =>
              rw [t4] at D4
              have hrf := HB.out b HBM.out.2 (by rw [hbd, t1, t2, t3, t4]; simp)
              subst hrf
              clear t1 t2 t3 t4 hbd
              go_wp2_with fail
              refine (D1.out _).mono ?_
              rintro e w6 ⟨rfl, rfl⟩
              go_wp2_with fail
              refine (D2.out _).mono ?_
              rintro e w6 ⟨rfl, rfl⟩
              go_wp2_with fail
              refine (D3.out _).mono ?_
              rintro e v3 ⟨rfl, hb⟩
              have HF3 := Lib.hid (And.intro (And.intro (newer_trans HE5.out.1 hb) (And.intro (HE5.out.2.1.below hb HE5.out.2.1.lt) (newer_trans HE5.out.2.2 hb))) hb)
              clear hb
              have y4_3 := keep_cell z4 HF3.out.2
              have y5_3 := keep_cell z5 HF3.out.2
              have y6_3 := keep_cell z6 HF3.out.2
              have y7_3 := keep_cell z7 HF3.out.2
              go_wp2_with fail
              refine (D4.out _).mono ?_
              rintro e v4 ⟨rfl, hb⟩
              have HF4 := Lib.hid (And.intro (And.intro (newer_trans HF3.out.1.1 hb) (And.intro (HF3.out.1.2.1.below hb HF3.out.1.2.1.lt) (newer_trans HF3.out.1.2.2 hb))) (newer_trans HF3.out.2 hb))
              clear hb
              have y6_4 := keep_cell z6 HF4.out.2
              have y7_4 := keep_cell z7 HF4.out.2
              go_wp2_with fail
              go_ret
              exact ⟨rfl, HF4.out.1.1⟩
             | true =>
              rw [t4] at D4
              cases t5 : rgU b.wa 100000 with
              | false =>
               rw [t5] at D5
               have hrf := HB.out b HBM.out.2 (by rw [hbd, t1, t2, t3, t4, t5]; simp)
               subst hrf
               clear t1 t2 t3 t4 t5 hbd
               go_wp2_with fail
               refine (D1.out _).mono ?_
               rintro e w6 ⟨rfl, rfl⟩
               go_wp2_with fail
               refine (D2.out _).mono ?_
               rintro e w6 ⟨rfl, rfl⟩
               go_wp2_with fail
               refine (D3.out _).mono ?_
               rintro e v3 ⟨rfl, hb⟩
               have HF3 := Lib.hid (And.intro (And.intro (newer_trans HE5.out.1 hb) (And.intro (HE5.out.2.1.below hb HE5.out.2.1.lt) (newer_trans HE5.out.2.2 hb))) hb)
               clear hb
               have y4_3 := keep_cell z4 HF3.out.2
               have y5_3 := keep_cell z5 HF3.out.2
               have y6_3 := keep_cell z6 HF3.out.2
               have y7_3 := keep_cell z7 HF3.out.2
               go_wp2_with fail
               refine (D4.out _).mono ?_
               rintro e v4 ⟨rfl, hb⟩
               have HF4 := Lib.hid (And.intro (And.intro (newer_trans HF3.out.1.1 hb) (And.intro (HF3.out.1.2.1.below hb HF3.out.1.2.1.lt) (newer_trans HF3.out.1.2.2 hb))) (newer_trans HF3.out.2 hb))
               clear hb
               have y6_4 := keep_cell z6 HF4.out.2
               have y7_4 := keep_cell z7 HF4.out.2
               go_wp2_with fail
               refine (D5.out _).mono ?_
               rintro e v5 ⟨rfl, hb⟩
               have HF5 := Lib.hid (And.intro (And.intro (newer_trans HF4.out.1.1 hb) (And.intro (HF4.out.1.2.1.below hb HF4.out.1.2.1.lt) (newer_trans HF4.out.1.2.2 hb))) (newer_trans HF4.out.2 hb))
               clear hb
               go_wp2_with fail
               go_ret
               exact ⟨rfl, HF5.out.1.1⟩
              | true =>
               rw [t5] at D5
               have HN := Lib.hid (early_succ HE3.out.2.2.2 HBM.out.1 (show (!bdB b) = false by rw [hbd, t1, t2, t3, t4, t5]; rfl))
               clear t1 t2 t3 t4 t5 hbd
               go_wp2_with fail
               refine (D1.out _).mono ?_
               rintro e w6 ⟨rfl, rfl⟩
               go_wp2_with fail
               refine (D2.out _).mono ?_
               rintro e w6 ⟨rfl, rfl⟩
               go_wp2_with fail
               refine (D3.out _).mono ?_
               rintro e v3 ⟨rfl, hb⟩
               have HF3 := Lib.hid (And.intro (And.intro (newer_trans HE5.out.1 hb) (And.intro (HE5.out.2.1.below hb HE5.out.2.1.lt) (newer_trans HE5.out.2.2 hb))) hb)
               clear hb
               have y4_3 := keep_cell z4 HF3.out.2
               have y5_3 := keep_cell z5 HF3.out.2
               have y6_3 := keep_cell z6 HF3.out.2
               have y7_3 := keep_cell z7 HF3.out.2
               go_wp2_with fail
               refine (D4.out _).mono ?_
               rintro e v4 ⟨rfl, hb⟩
               have HF4 := Lib.hid (And.intro (And.intro (newer_trans HF3.out.1.1 hb) (And.intro (HF3.out.1.2.1.below hb HF3.out.1.2.1.lt) (newer_trans HF3.out.1.2.2 hb))) (newer_trans HF3.out.2 hb))
               clear hb
               have y6_4 := keep_cell z6 HF4.out.2
               have y7_4 := keep_cell z7 HF4.out.2
               go_wp2_with fail
               refine (D5.out _).mono ?_
               rintro e v5 ⟨rfl, hb⟩
               have HF5 := Lib.hid (And.intro (And.intro (newer_trans HF4.out.1.1 hb) (And.intro (HF4.out.1.2.1.below hb HF4.out.1.2.1.lt) (newer_trans HF4.out.1.2.2 hb))) (newer_trans HF4.out.2 hb))
               clear hb
               go_wp2_with fail
               refine ⟨⟨j + 1, by omega, rfl, HF5.out.1.1, HF5.out.1.2.1, HF5.out.1.2.2, HN.out⟩, ?_⟩
               simp [intOf]
               omega
         ·obtain rfl : j = x.beds.length := by omega
          have HC := Lib.hid (early_succ HE.out.2.2.2 HX.out (by rw [HBT.out HE3.out.2.2.2]; rfl))
          go_wp2_with fail
          refine ⟨⟨k + 1, by omega, rfl, HE3.out.1, HE3.out.2.1, HE3.out.2.2.1, HC.out⟩, ?_⟩
          simp [intOf]
          omega
      ·have hne : ((x.beds.length : Int) != n) = true := by simp; omega
       have hrf := HF.out.2.2.1 x HXM.out (by rw [hcp, q3, decide_eq_false hln]; rfl)
       subst hrf
       clear q3 hcp
       go_upto_region 6 with fail
       refine wp_words (by kernel_rfl) (region_told_u 21 (by kernel_rfl) (by kernel_rfl) [false, false, false, false, false, false, false, false, false, false, false, false, false, false, false, false, false, false, false, false, false] (fun W => Below wr.heap.size wr W) newer [vIs (.pointer (some ⟨w.heap.size, 0, none⟩)), vIs (.slice (some ⟨b1, o1, none⟩) s.cs.length s.c), vIs (.int .i64 k), vIs (.pointer (some ⟨b1, o1 + k, none⟩)), vIs (.slice x.a x.beds.length x.cp), vIs (.int .i64 x.beds.length), vIs (.bool true), vIs (.bool false), vIs (.bool false), vIs (.pointer (some ⟨w.heap.size, 0, none⟩)), vIs (.slice (some ⟨b1, o1, none⟩) s.cs.length s.c), vIs (.int .i64 k), vIs (.pointer (some ⟨b1, o1 + k, none⟩)), vIs (.slice x.a x.beds.length x.cp), vIs (.int .i64 x.beds.length), vIs (.pointer (some ⟨w.heap.size, 0, none⟩)), vIs (.slice (some ⟨b1, o1, none⟩) s.cs.length s.c), vIs (.pointer (some ⟨b1, o1, none⟩)), vIs (.slice y0.a n y0.cp), vIs (.int .i64 n), vIs (.bool true)] (by repeat' first | refine And.intro ?_ ?_ | exact trivial | exact rfl | (intro v W h; obtain rfl : v = _ := h; first | rfl | (simp; done) | (simp [undef]; done))) (by repeat' first | refine And.intro ?_ ?_ | exact trivial | exact (fun h => Bool.noConfusion (show false = true from h)) | exact (fun _ _ => rfl)) (fun h k => newer_trans h k) (pickD_stable _ (by repeat' first | refine And.intro ?_ ?_ | exact trivial | exact vIs_st)) (Below.refl _ wr).drew (Below.refl _ _) ?_ ?_)
       ·refine ⟨.inr ?_, .inr ?_, .inr ?_, .inr ?_, .inr ?_, .inr ?_, .inr ?_, .inr ?_, .inr ?_, .inr ?_, .inr ?_, .inr ?_, .inr ?_, .inr ?_, .inr ?_, .inr ?_, .inr ?_, .inr ?_, .inr ?_, .inr ?_, .inr ?_, trivial⟩
        ·intro a W hG hR hO hp; have h1 := hO.slot 1 (by kernel_rfl); refine kY (v := .pointer (some ⟨w.heap.size, 0, none⟩)) hG rfl ?_; simp [slotOf] at h1; simp [execOp, go_sem, h1]
        ·intro a W hG hR hO hp; have h24 : slotOf a 24 = .pointer (some ⟨w.heap.size, 0, none⟩) := hp.1; have c0 := keep_cell x0 hG; refine kY (v := .slice (some ⟨b1, o1, none⟩) s.cs.length s.c) hG rfl ?_; simp [slotOf] at h24; simp [execOp, go_sem, h24, c0]
        ·exact fun a W hG _ hO _ => kM 3 rfl (hO.slot 3 (by kernel_rfl)) rfl hG
        ·intro a W hG hR hO hp; have h25 : slotOf a 25 = .slice (some ⟨b1, o1, none⟩) s.cs.length s.c := hp.1; have h26 : slotOf a 26 = .int .i64 k := hp.2.1; refine kY (v := .pointer (some ⟨b1, o1 + k, none⟩)) hG rfl ?_; simp [slotOf] at h25 h26; simp [execOp, go_sem, h25, h26, hki]
        ·intro a W hG hR hO hp; have h27 : slotOf a 27 = .pointer (some ⟨b1, o1 + k, none⟩) := hp.1; have c0 := keep_cell cx hG; refine kY (v := .slice x.a x.beds.length x.cp) hG rfl ?_; simp [slotOf] at h27; simp [execOp, go_sem, h27, c0]
        ·intro a W hG hR hO hp; have h28 : slotOf a 28 = .slice x.a x.beds.length x.cp := hp.1; refine kY (v := .int .i64 x.beds.length) hG rfl ?_; simp [slotOf] at h28; simp [go_sem, h28]
        ·intro a W hG hR hO hp
         have h29 : slotOf a 29 = .int .i64 x.beds.length := hp.1
         refine wp_enters (f := 50) (args := #[vi x.beds.length, vi 1, vi 5]) ?_ ((C3.out W).mono ?_)
         ·simp [slotOf] at h29
          simp [go_sem, h29]
         ·rintro e w' ⟨rfl, rfl⟩
          exact ⟨_, rfl, _, rfl, rfl, Below.refl _ _, hG⟩
        ·intro a W hG hR hO hp; have h30 : slotOf a 30 = .bool true := hp.1; refine kY (v := .bool false) hG rfl ?_; simp [slotOf] at h30; simp [execOp, go_sem, h30]
        ·exact fun a W hG _ _ hp => kM 31 rfl hp.1 rfl hG
        ·intro a W hG hR hO hp; have h1 := hO.slot 1 (by kernel_rfl); refine kY (v := .pointer (some ⟨w.heap.size, 0, none⟩)) hG rfl ?_; simp [slotOf] at h1; simp [execOp, go_sem, h1]
        ·intro a W hG hR hO hp; have h33 : slotOf a 33 = .pointer (some ⟨w.heap.size, 0, none⟩) := hp.1; have c0 := keep_cell x0 hG; refine kY (v := .slice (some ⟨b1, o1, none⟩) s.cs.length s.c) hG rfl ?_; simp [slotOf] at h33; simp [execOp, go_sem, h33, c0]
        ·exact fun a W hG _ hO _ => kM 3 rfl (hO.slot 3 (by kernel_rfl)) rfl hG
        ·intro a W hG hR hO hp; have h34 : slotOf a 34 = .slice (some ⟨b1, o1, none⟩) s.cs.length s.c := hp.1; have h35 : slotOf a 35 = .int .i64 k := hp.2.1; refine kY (v := .pointer (some ⟨b1, o1 + k, none⟩)) hG rfl ?_; simp [slotOf] at h34 h35; simp [execOp, go_sem, h34, h35, hki]
        ·intro a W hG hR hO hp; have h36 : slotOf a 36 = .pointer (some ⟨b1, o1 + k, none⟩) := hp.1; have c0 := keep_cell cx hG; refine kY (v := .slice x.a x.beds.length x.cp) hG rfl ?_; simp [slotOf] at h36; simp [execOp, go_sem, h36, c0]
        ·intro a W hG hR hO hp; have h37 : slotOf a 37 = .slice x.a x.beds.length x.cp := hp.1; refine kY (v := .int .i64 x.beds.length) hG rfl ?_; simp [slotOf] at h37; simp [go_sem, h37]
        ·intro a W hG hR hO hp; have h1 := hO.slot 1 (by kernel_rfl); refine kY (v := .pointer (some ⟨w.heap.size, 0, none⟩)) hG rfl ?_; simp [slotOf] at h1; simp [execOp, go_sem, h1]
        ·intro a W hG hR hO hp; have h39 : slotOf a 39 = .pointer (some ⟨w.heap.size, 0, none⟩) := hp.1; have c0 := keep_cell x0 hG; refine kY (v := .slice (some ⟨b1, o1, none⟩) s.cs.length s.c) hG rfl ?_; simp [slotOf] at h39; simp [execOp, go_sem, h39, c0]
        ·intro a W hG hR hO hp; have h40 : slotOf a 40 = .slice (some ⟨b1, o1, none⟩) s.cs.length s.c := hp.1; refine kY (v := .pointer (some ⟨b1, o1, none⟩)) hG rfl ?_; simp [slotOf] at h40; simp [execOp, go_sem, h40, hcne]
        ·intro a W hG hR hO hp; have h41 : slotOf a 41 = .pointer (some ⟨b1, o1, none⟩) := hp.1; have c0 := keep_cell cy hG; refine kY (v := .slice y0.a n y0.cp) hG rfl ?_; simp [slotOf] at h41; simp [execOp, go_sem, h41, c0]
        ·intro a W hG hR hO hp; have h42 : slotOf a 42 = .slice y0.a n y0.cp := hp.1; refine kY (v := .int .i64 n) hG rfl ?_; simp [slotOf] at h42; simp [go_sem, h42]
        ·intro a W hG hR hO hp; have h38 : slotOf a 38 = .int .i64 x.beds.length := hp.1; have h43 : slotOf a 43 = .int .i64 n := hp.2.1; refine kY (v := .bool true) hG rfl ?_; simp [slotOf] at h38 h43; simp [execOp, go_sem, h38, h43, hne]
       ·intro W hG hR
        rintro _ rfl _ rfl _ rfl _ rfl _ rfl _ rfl _ rfl _ rfl _ rfl _ rfl _ rfl _ rfl _ rfl _ rfl _ rfl _ rfl _ rfl _ rfl _ rfl _ rfl _ rfl
        change wpList _ _ _ _ _ _
        simp only [Act.put, List.setIfInBounds_toArray, List.set_cons_zero, List.set_cons_succ, List.drop_succ_cons, List.drop_zero]
        have HE2 := Lib.hid (newer_trans HE.out.1 hG)
        clear hG hR cy cx x0
        go_wp2_with fail
        go_ret
        exact ⟨rfl, HE2.out⟩
    ·obtain rfl : k = s.cs.length := by omega
     have hrf := HT.out HE.out.2.2.2
     subst hrf
     go_wp2_with fail
     go_ret
     exact ⟨rfl, HE.out.1⟩
end

section
open Go.RowKit Go.Shelf Go.Deep
set_option maxRecDepth 100000 in
set_option maxHeartbeats 2000000 in
theorem isSurface_any (s : Sm) (u : Su) (w : World) (hok : SmOk s w) (hu : SuOk u w) (hs : SdOk s.sd) (hul : u.beds.length <= 1000) : Calls Try.prog 30 #[smV s, suV u] w fun e w' => e = .returned (.bool (surfB s.sd u.frm u.beds)) /\ newer w w' := by
 have hcl : s.cs.length <= 12 /\ 1 <= s.cs.length := by have h1 := hs.cols; rw [sd_len] at h1; omega
 have hnw : newer w ((w.alloc (.cells (smC s) 24)).alloc (.cells (suC u) 27)) := newer_trans (newer_allocH _ _) (newer_allocH _ _)
 have hxb := (Whole.made w 24 (smC s)).alloc (.cells (suC u) 27)
 have hub := Whole.made (w.alloc (.cells (smC s) 24)) 27 (suC u)
 rw [World.size_alloc] at hub
 have H0 := Lib.hid (And.intro hnw (And.intro hxb hub))
 obtain ⟨y0, hy0⟩ := get_of_lt (l := s.cs) (k := 0) (by omega)
 have hyn : y0.beds.length = s.sd.n := (sd_n hy0).symm
 obtain ⟨b1, o1, ea, _, cy⟩ := rowC (hok.next hnw).cs hy0
 simp only [Nat.add_zero] at cy
 have x0 := hxb.at 0 (v := .slice s.a s.cs.length s.c) rfl
 rw [ea] at x0
 have HSA := Lib.hid ea
 have x1 := hxb.at 1 (v := vi s.least) rfl
 have u0 := hub.at 0 (v := vi u.frm) rfl
 have u1 := hub.at 1 (v := .slice u.a u.beds.length u.c) rfl
 obtain ⟨n, hn⟩ : ∃ n, n = s.sd.n := ⟨_, rfl⟩
 have hnb : 1 <= n /\ n <= 5 := by rw [hn]; exact hs.beds
 rw [hyn, <- hn] at cy
 unfold surfB
 rw [sd_len, <- hn, show s.sd.least = s.least from rfl]
 have HU := Lib.hid (hu.next hnw)
 have hcne : ¬ (s.cs = []) := by intro h; rw [h] at hcl; simp at hcl
 have hls := hs.least
 have hls2 : s.sd.least = s.least := rfl
 rw [hls2] at hls
 have C1 := Lib.hid (fun W => in_any u.frm 0 ((s.cs.length : Int) - u.beds.length) W)
 clear hok hu hs hnw hxb hub hy0 hyn hn ea hls2
 by_cases h2 : (u.beds.length : Int) < s.least
 ·rw [decide_eq_false (by omega : ¬ s.least <= u.beds.length), Bool.and_false, Bool.false_and, Bool.false_and]
  go_enter Try.func30, Try.ntmps30
  go_wp2_with fail
  go_ret
  exact ⟨rfl, H0.out.1⟩
 ·rw [decide_eq_true (by omega : s.least <= u.beds.length)]
  by_cases h3 : (s.cs.length : Int) < u.beds.length
  ·have hz : (decide (0 <= u.frm) && true && decide (u.frm <= s.cs.length - u.beds.length) && goodB u.beds.length (okB n u.beds)) = false := by
    by_cases h4 : 0 <= u.frm
    ·rw [decide_eq_false (by omega : ¬ u.frm <= s.cs.length - u.beds.length), Bool.and_false, Bool.false_and]
    ·rw [decide_eq_false h4]; rfl
   rw [hz]
   clear hz
   go_enter Try.func30, Try.ntmps30
   go_wp2_with fail
   go_ret
   exact ⟨rfl, H0.out.1⟩
  ·have hz : (decide (0 <= u.frm) && true && decide (u.frm <= s.cs.length - u.beds.length) && goodB u.beds.length (okB n u.beds)) = (inB u.frm 0 ((s.cs.length : Int) - u.beds.length) && goodB u.beds.length (okB n u.beds)) := by
    rw [Bool.and_true]
    rfl
   rw [hz]
   clear hz
   cases q0 : inB u.frm 0 ((s.cs.length : Int) - u.beds.length) with
   | false =>
    rw [q0] at C1
    rw [Bool.false_and]
    clear q0
    go_enter Try.func30, Try.ntmps30
    go_wp2_with fail
    refine (C1.out _).mono ?_
    rintro e w2 ⟨rfl, rfl⟩
    go_wp2_with fail
    go_ret
    exact ⟨rfl, H0.out.1⟩
   | true =>
    rw [q0] at C1
    rw [Bool.true_and]
    clear q0
    have HQ : Hid (∀ k, k < u.beds.length -> okB n u.beds k = false -> goodB u.beds.length (okB n u.beds) = false) := Lib.hid (fun k hk h => goodB_false hk h)
    have HQ2 : Hid (goodTo (okB n u.beds) u.beds.length -> goodB u.beds.length (okB n u.beds) = true) := Lib.hid (fun h => goodB_true h)
    obtain ⟨r, hr⟩ : ∃ r, r = goodB u.beds.length (okB n u.beds) := ⟨_, rfl⟩
    rw [<- hr] at HQ HQ2 ⊢
    clear hr
    obtain ⟨ub, uo, eu, _⟩ := row1k HU.out (k := 0) (by omega)
    rw [eu] at u1
    have HEU := Lib.hid eu
    have HCY := Lib.hid cy
    clear eu cy
    go_enter Try.func30, Try.ntmps30
    go_wp2_with fail
    refine (C1.out _).mono ?_
    rintro e w2 ⟨rfl, rfl⟩
    go_wp2_with fail
    go_loopw [6] (fun s6 wr => ∃ k : Nat, k <= u.beds.length /\ s6 = vi k /\ goodTo (okB n u.beds) k /\ newer w wr /\ Whole wr w.heap.size 24 (smC s) /\ Whole wr (w.heap.size + 1) 27 (suC u) /\ newer ((w.alloc (.cells (smC s) 24)).alloc (.cells (suC u) 27)) wr) (fun s6 _ => u.beds.length - (intOf s6).toNat)
    case atStart => exact ⟨0, Nat.zero_le _, rfl, goodTo_zero _, H0.out.1, H0.out.2.1, H0.out.2.2, Below.refl _ _⟩
    case round =>
     obtain ⟨k, hk, rfl, q2, q3, q4, q5, q6⟩ := hrel
     clear x0 x1 u0 u1 H0
     by_cases hlt : k < u.beds.length
     ·have x0 := q4.at 0 (v := .slice s.a s.cs.length s.c) rfl
      rw [HSA.out] at x0
      obtain ⟨b2, o2, e2, d0⟩ := row1k (HU.out.below q6) hlt
      rw [HEU.out] at e2
      obtain ⟨rfl, rfl⟩ : ub = b2 /\ uo = o2 := by simpa using e2
      have u1 := q5.at 1 (v := .slice u.a u.beds.length u.c) rfl
      rw [HEU.out] at u1
      have cy := keep_cell HCY.out q6
      have hki : (k : Int) < u.beds.length := by omega
      have c47 : IntKind.i64.wrap ((n : Int) - 1) = (n : Int) - 1 := IntWalk.i64_in _ (by omega)
      have HG := Lib.hid (And.intro q2 q3)
      have HW := Lib.hid (And.intro q4 (And.intro q5 q6))
      have hok : okB n u.beds k = (inB (iAt u.beds k) 0 ((n : Int) - 1) && (decide (k = 0) || inB (iAt u.beds k - iAt u.beds (k - 1)) (-1) 1)) := rfl
      clear e2 q2 q3 q4 q5 q6
      obtain ⟨p, hp⟩ : ∃ p, p = iAt u.beds k := ⟨_, rfl⟩
      rw [<- hp] at d0 hok
      have HC1 := Lib.hid (fun W => in_any p 0 ((n : Int) - 1) W)
      cases hq : inB p 0 ((n : Int) - 1) with
      | false =>
       rw [hq] at HC1 hok
       have hr2 : r = false := HQ.out k hlt hok
       subst hr2
       clear hok hq hp
       go_upto_region 7 with fail
       refine wp_words (by kernel_rfl) (region_told_u 32 (by kernel_rfl) (by kernel_rfl) [false, false, false, false, false, false, false, false, false, false, false, false, false, false, true, true, true, true, true, true, true, true, true, true, true, true, true, true, true, true, true, true] (fun W => Below wr.heap.size wr W) newer [vIs (.pointer (some ⟨(w.heap.size + 1), 1, none⟩)), vIs (.slice (some ⟨ub, uo, none⟩) u.beds.length u.c), vIs (.int .i64 k), vIs (.pointer (some ⟨ub, uo + k, none⟩)), vIs (vi p), vIs (.pointer (some ⟨w.heap.size, 0, none⟩)), vIs (.slice (some ⟨b1, o1, none⟩) s.cs.length s.c), vIs (.pointer (some ⟨b1, o1, none⟩)), vIs (.slice y0.a n y0.cp), vIs (.int .i64 n), vIs (vi ((n : Int) - 1)), vIs (.bool false), vIs (.bool true), vIs (.bool true), vIs (undef), vIs (undef), vIs (undef), vIs (undef), vIs (undef), vIs (undef), vIs (undef), vIs (undef), vIs (undef), vIs (undef), vIs (undef), vIs (undef), vIs (undef), vIs (undef), vIs (undef), vIs (undef), vIs (undef), vIs (undef)] (by repeat' first | refine And.intro ?_ ?_ | exact trivial | exact rfl | (intro v W h; obtain rfl : v = _ := h; first | rfl | (simp; done) | (simp [undef]; done))) (by repeat' first | refine And.intro ?_ ?_ | exact trivial | exact (fun h => Bool.noConfusion (show false = true from h)) | exact (fun _ _ => rfl)) (fun h k => newer_trans h k) (pickD_stable _ (by repeat' first | refine And.intro ?_ ?_ | exact trivial | exact vIs_st)) (Below.refl _ wr).drew (Below.refl _ _) ?_ ?_)
       ·refine ⟨.inr ?_, .inr ?_, .inr ?_, .inr ?_, .inr ?_, .inr ?_, .inr ?_, .inr ?_, .inr ?_, .inr ?_, .inr ?_, .inr ?_, .inr ?_, .inr ?_, .inl rfl, .inl rfl, .inl rfl, .inl rfl, .inl rfl, .inl rfl, .inl rfl, .inl rfl, .inl rfl, .inl rfl, .inl rfl, .inl rfl, .inl rfl, .inl rfl, .inl rfl, .inl rfl, .inl rfl, .inl rfl, trivial⟩
        ·intro a W hG hR hO hp; have h3 := hO.slot 3 (by kernel_rfl); refine kY (v := .pointer (some ⟨(w.heap.size + 1), 1, none⟩)) hG rfl ?_; simp [slotOf] at h3; simp [execOp, go_sem, h3]
        ·intro a W hG hR hO hp; have h37 : slotOf a 37 = .pointer (some ⟨(w.heap.size + 1), 1, none⟩) := hp.1; have c0 := keep_cell u1 hG; refine kY (v := .slice (some ⟨ub, uo, none⟩) u.beds.length u.c) hG rfl ?_; simp [slotOf] at h37; simp [execOp, go_sem, h37, c0]
        ·exact fun a W hG _ hO _ => kM 6 rfl (hO.slot 6 (by kernel_rfl)) rfl hG
        ·intro a W hG hR hO hp; have h38 : slotOf a 38 = .slice (some ⟨ub, uo, none⟩) u.beds.length u.c := hp.1; have h39 : slotOf a 39 = .int .i64 k := hp.2.1; refine kY (v := .pointer (some ⟨ub, uo + k, none⟩)) hG rfl ?_; simp [slotOf] at h38 h39; simp [execOp, go_sem, h38, h39, hki]
        ·intro a W hG hR hO hp; have h40 : slotOf a 40 = .pointer (some ⟨ub, uo + k, none⟩) := hp.1; have c0 := keep_cell d0 hG; refine kY (v := vi p) hG rfl ?_; simp [slotOf] at h40; simp [execOp, go_sem, h40, c0]
        ·intro a W hG hR hO hp; have h2 := hO.slot 2 (by kernel_rfl); refine kY (v := .pointer (some ⟨w.heap.size, 0, none⟩)) hG rfl ?_; simp [slotOf] at h2; simp [execOp, go_sem, h2]
        ·intro a W hG hR hO hp; have h42 : slotOf a 42 = .pointer (some ⟨w.heap.size, 0, none⟩) := hp.1; have c0 := keep_cell x0 hG; refine kY (v := .slice (some ⟨b1, o1, none⟩) s.cs.length s.c) hG rfl ?_; simp [slotOf] at h42; simp [execOp, go_sem, h42, c0]
        ·intro a W hG hR hO hp; have h43 : slotOf a 43 = .slice (some ⟨b1, o1, none⟩) s.cs.length s.c := hp.1; refine kY (v := .pointer (some ⟨b1, o1, none⟩)) hG rfl ?_; simp [slotOf] at h43; simp [execOp, go_sem, h43, hcne]
        ·intro a W hG hR hO hp; have h44 : slotOf a 44 = .pointer (some ⟨b1, o1, none⟩) := hp.1; have c0 := keep_cell cy hG; refine kY (v := .slice y0.a n y0.cp) hG rfl ?_; simp [slotOf] at h44; simp [execOp, go_sem, h44, c0]
        ·intro a W hG hR hO hp; have h45 : slotOf a 45 = .slice y0.a n y0.cp := hp.1; refine kY (v := .int .i64 n) hG rfl ?_; simp [slotOf] at h45; simp [go_sem, h45]
        ·intro a W hG hR hO hp; have h46 : slotOf a 46 = .int .i64 n := hp.1; refine kY (v := vi ((n : Int) - 1)) hG rfl ?_; simp [slotOf] at h46; simp [execOp, go_sem, h46, c47]
        ·intro a W hG hR hO hp
         have h41 : slotOf a 41 = vi p := hp.1
         have h47 : slotOf a 47 = vi ((n : Int) - 1) := hp.2.1
         refine wp_enters (f := 50) (args := #[vi p, vi 0, vi ((n : Int) - 1)]) ?_ ((HC1.out W).mono ?_)
         ·simp [slotOf] at h41 h47
          simp [go_sem, h41, h47]
         ·rintro e w' ⟨rfl, rfl⟩
          exact ⟨_, rfl, _, rfl, rfl, Below.refl _ _, hG⟩
        ·intro a W hG hR hO hp; have h48 : slotOf a 48 = .bool false := hp.1; refine kY (v := .bool true) hG rfl ?_; simp [slotOf] at h48; simp [execOp, go_sem, h48]
        ·exact fun a W hG _ _ hp => kM 49 rfl hp.1 rfl hG
       ·intro W hG hR
        rintro _ rfl _ rfl _ rfl _ rfl _ rfl _ rfl _ rfl _ rfl _ rfl _ rfl _ rfl _ rfl _ rfl _ rfl _ rfl _ rfl _ rfl _ rfl _ rfl _ rfl _ rfl _ rfl _ rfl _ rfl _ rfl _ rfl _ rfl _ rfl _ rfl _ rfl _ rfl _ rfl
        change wpList _ _ _ _ _ _
        simp only [Act.put, List.setIfInBounds_toArray, List.set_cons_zero, List.set_cons_succ, List.drop_succ_cons, List.drop_zero]
        have HE := Lib.hid (newer_trans HG.out.2 hG)
        clear hG hR x0 u1 cy d0 c47
        go_wp2_with fail
        go_ret
        exact ⟨rfl, HE.out⟩
      | true =>
       rw [hq] at HC1 hok
       have hpb : 0 <= p /\ p <= (n : Int) - 1 := by simpa [inB] using hq
       by_cases hk0 : k = 0
       ·have HS := Lib.hid (goodTo_succ HG.out.1 (by rw [hok, decide_eq_true hk0]; rfl))
        have HKP := Lib.hid hk0
        clear hok hq hp hk0
        go_upto_region 7 with fail
        refine wp_words (by kernel_rfl) (region_told_u 32 (by kernel_rfl) (by kernel_rfl) [false, false, false, false, false, false, false, false, false, false, false, false, false, false, false, false, false, true, true, true, true, true, true, true, true, true, true, true, true, true, true, false] (fun W => Below wr.heap.size wr W) newer [vIs (.pointer (some ⟨(w.heap.size + 1), 1, none⟩)), vIs (.slice (some ⟨ub, uo, none⟩) u.beds.length u.c), vIs (.int .i64 k), vIs (.pointer (some ⟨ub, uo + k, none⟩)), vIs (vi p), vIs (.pointer (some ⟨w.heap.size, 0, none⟩)), vIs (.slice (some ⟨b1, o1, none⟩) s.cs.length s.c), vIs (.pointer (some ⟨b1, o1, none⟩)), vIs (.slice y0.a n y0.cp), vIs (.int .i64 n), vIs (vi ((n : Int) - 1)), vIs (.bool true), vIs (.bool false), vIs (.bool false), vIs (.int .i64 k), vIs (.bool false), vIs (.bool false), vIs (undef), vIs (undef), vIs (undef), vIs (undef), vIs (undef), vIs (undef), vIs (undef), vIs (undef), vIs (undef), vIs (undef), vIs (undef), vIs (undef), vIs (undef), vIs (undef), vIs (.bool false)] (by repeat' first | refine And.intro ?_ ?_ | exact trivial | exact rfl | (intro v W h; obtain rfl : v = _ := h; first | rfl | (simp; done) | (simp [undef]; done))) (by repeat' first | refine And.intro ?_ ?_ | exact trivial | exact (fun h => Bool.noConfusion (show false = true from h)) | exact (fun _ _ => rfl)) (fun h k => newer_trans h k) (pickD_stable _ (by repeat' first | refine And.intro ?_ ?_ | exact trivial | exact vIs_st)) (Below.refl _ wr).drew (Below.refl _ _) ?_ ?_)
        ·refine ⟨.inr ?_, .inr ?_, .inr ?_, .inr ?_, .inr ?_, .inr ?_, .inr ?_, .inr ?_, .inr ?_, .inr ?_, .inr ?_, .inr ?_, .inr ?_, .inr ?_, .inr ?_, .inr ?_, .inr ?_, .inl rfl, .inl rfl, .inl rfl, .inl rfl, .inl rfl, .inl rfl, .inl rfl, .inl rfl, .inl rfl, .inl rfl, .inl rfl, .inl rfl, .inl rfl, .inl rfl, .inr ?_, trivial⟩
         ·intro a W hG hR hO hp; have h3 := hO.slot 3 (by kernel_rfl); refine kY (v := .pointer (some ⟨(w.heap.size + 1), 1, none⟩)) hG rfl ?_; simp [slotOf] at h3; simp [execOp, go_sem, h3]
         ·intro a W hG hR hO hp; have h37 : slotOf a 37 = .pointer (some ⟨(w.heap.size + 1), 1, none⟩) := hp.1; have c0 := keep_cell u1 hG; refine kY (v := .slice (some ⟨ub, uo, none⟩) u.beds.length u.c) hG rfl ?_; simp [slotOf] at h37; simp [execOp, go_sem, h37, c0]
         ·exact fun a W hG _ hO _ => kM 6 rfl (hO.slot 6 (by kernel_rfl)) rfl hG
         ·intro a W hG hR hO hp; have h38 : slotOf a 38 = .slice (some ⟨ub, uo, none⟩) u.beds.length u.c := hp.1; have h39 : slotOf a 39 = .int .i64 k := hp.2.1; refine kY (v := .pointer (some ⟨ub, uo + k, none⟩)) hG rfl ?_; simp [slotOf] at h38 h39; simp [execOp, go_sem, h38, h39, hki]
         ·intro a W hG hR hO hp; have h40 : slotOf a 40 = .pointer (some ⟨ub, uo + k, none⟩) := hp.1; have c0 := keep_cell d0 hG; refine kY (v := vi p) hG rfl ?_; simp [slotOf] at h40; simp [execOp, go_sem, h40, c0]
         ·intro a W hG hR hO hp; have h2 := hO.slot 2 (by kernel_rfl); refine kY (v := .pointer (some ⟨w.heap.size, 0, none⟩)) hG rfl ?_; simp [slotOf] at h2; simp [execOp, go_sem, h2]
         ·intro a W hG hR hO hp; have h42 : slotOf a 42 = .pointer (some ⟨w.heap.size, 0, none⟩) := hp.1; have c0 := keep_cell x0 hG; refine kY (v := .slice (some ⟨b1, o1, none⟩) s.cs.length s.c) hG rfl ?_; simp [slotOf] at h42; simp [execOp, go_sem, h42, c0]
         ·intro a W hG hR hO hp; have h43 : slotOf a 43 = .slice (some ⟨b1, o1, none⟩) s.cs.length s.c := hp.1; refine kY (v := .pointer (some ⟨b1, o1, none⟩)) hG rfl ?_; simp [slotOf] at h43; simp [execOp, go_sem, h43, hcne]
         ·intro a W hG hR hO hp; have h44 : slotOf a 44 = .pointer (some ⟨b1, o1, none⟩) := hp.1; have c0 := keep_cell cy hG; refine kY (v := .slice y0.a n y0.cp) hG rfl ?_; simp [slotOf] at h44; simp [execOp, go_sem, h44, c0]
         ·intro a W hG hR hO hp; have h45 : slotOf a 45 = .slice y0.a n y0.cp := hp.1; refine kY (v := .int .i64 n) hG rfl ?_; simp [slotOf] at h45; simp [go_sem, h45]
         ·intro a W hG hR hO hp; have h46 : slotOf a 46 = .int .i64 n := hp.1; refine kY (v := vi ((n : Int) - 1)) hG rfl ?_; simp [slotOf] at h46; simp [execOp, go_sem, h46, c47]
         ·intro a W hG hR hO hp
          have h41 : slotOf a 41 = vi p := hp.1
          have h47 : slotOf a 47 = vi ((n : Int) - 1) := hp.2.1
          refine wp_enters (f := 50) (args := #[vi p, vi 0, vi ((n : Int) - 1)]) ?_ ((HC1.out W).mono ?_)
          ·simp [slotOf] at h41 h47
           simp [go_sem, h41, h47]
          ·rintro e w' ⟨rfl, rfl⟩
           exact ⟨_, rfl, _, rfl, rfl, Below.refl _ _, hG⟩
         ·intro a W hG hR hO hp; have h48 : slotOf a 48 = .bool true := hp.1; refine kY (v := .bool false) hG rfl ?_; simp [slotOf] at h48; simp [execOp, go_sem, h48]
         ·exact fun a W hG _ _ hp => kM 49 rfl hp.1 rfl hG
         ·exact fun a W hG _ hO _ => kM 6 rfl (hO.slot 6 (by kernel_rfl)) rfl hG
         ·intro a W hG hR hO hp; have h51 : slotOf a 51 = .int .i64 k := hp.1; refine kY (v := .bool false) hG rfl ?_; simp [slotOf] at h51; simp [execOp, go_sem, h51, HKP.out]
         ·exact fun a W hG _ _ hp => kM 52 rfl hp.1 rfl hG
         ·intro a W hG hR hO hp; have h53 : slotOf a 53 = .bool false := hp.1; have h67 : slotOf a 67 = undef := hp.2.1; refine kY (v := .bool false) hG rfl ?_; simp [slotOf] at h53 h67; simp [execOp, go_sem, h53, h67]
        ·intro W hG hR
         rintro _ rfl _ rfl _ rfl _ rfl _ rfl _ rfl _ rfl _ rfl _ rfl _ rfl _ rfl _ rfl _ rfl _ rfl _ rfl _ rfl _ rfl _ rfl _ rfl _ rfl _ rfl _ rfl _ rfl _ rfl _ rfl _ rfl _ rfl _ rfl _ rfl _ rfl _ rfl _ rfl
         change wpList _ _ _ _ _ _
         simp only [Act.put, List.setIfInBounds_toArray, List.set_cons_zero, List.set_cons_succ, List.drop_succ_cons, List.drop_zero]
         have HE := Lib.hid (And.intro (newer_trans HG.out.2 hG) (And.intro (HW.out.1.below hG HW.out.1.lt) (And.intro (HW.out.2.1.below hG HW.out.2.1.lt) (newer_trans HW.out.2.2 hG))))
         clear hG hR x0 u1 cy d0 c47
         go_wp2_with fail
         refine ⟨⟨k + 1, by omega, rfl, HS.out, HE.out.1, HE.out.2.1, HE.out.2.2.1, HE.out.2.2.2⟩, ?_⟩
         simp [intOf]
         omega
       ·have hg1 := HG.out.1 (k - 1) (by omega)
        obtain ⟨km, hkm0⟩ : ∃ km, km = k - 1 := ⟨_, rfl⟩
        obtain ⟨b3, o3, e3, d1⟩ := row1k (HU.out.below HW.out.2.2) (k := km) (by omega)
        rw [HEU.out] at e3
        obtain ⟨rfl, rfl⟩ : ub = b3 /\ uo = o3 := by simpa using e3
        unfold okB at hg1
        rw [Bool.and_eq_true] at hg1
        rw [<- hkm0] at hg1 hok
        have hpb2 : 0 <= iAt u.beds km /\ iAt u.beds km <= (n : Int) - 1 := by simpa [inB] using hg1.1
        obtain ⟨p2, hp2⟩ : ∃ p2, p2 = iAt u.beds km := ⟨_, rfl⟩
        rw [<- hp2] at d1 hok hpb2
        have HC2 := Lib.hid (fun W => in_any (p - p2) (-1) 1 W)
        rw [decide_eq_false hk0, Bool.false_or, Bool.true_and] at hok
        have HKP := Lib.hid (show 0 < k by omega)
        have hkl : k <= 1000 := by omega
        have c62 : IntKind.i64.wrap ((k : Int) - 1) = (km : Int) := by rw [show (k : Int) - 1 = km by omega]; exact IntWalk.i64_in _ (by omega)
        have c65 : IntKind.i64.wrap (p - p2) = p - p2 := IntWalk.i64_in _ (by omega)
        have hkm : (km : Int) < u.beds.length := by omega
        clear hg1 e3 hp2 hp hq hkm0
        cases hr2 : inB (p - p2) (-1) 1 with
        | false =>
         rw [hr2] at HC2 hok
         have hr3 : r = false := HQ.out k hlt hok
         subst hr3
         clear hr2 hok
         go_upto_region 7 with fail
         refine wp_words (by kernel_rfl) (region_told_u 32 (by kernel_rfl) (by kernel_rfl) [false, false, false, false, false, false, false, false, false, false, false, false, false, false, false, false, false, false, false, false, false, false, false, false, false, false, false, false, false, false, false, false] (fun W => Below wr.heap.size wr W) newer [vIs (.pointer (some ⟨(w.heap.size + 1), 1, none⟩)), vIs (.slice (some ⟨ub, uo, none⟩) u.beds.length u.c), vIs (.int .i64 k), vIs (.pointer (some ⟨ub, uo + k, none⟩)), vIs (vi p), vIs (.pointer (some ⟨w.heap.size, 0, none⟩)), vIs (.slice (some ⟨b1, o1, none⟩) s.cs.length s.c), vIs (.pointer (some ⟨b1, o1, none⟩)), vIs (.slice y0.a n y0.cp), vIs (.int .i64 n), vIs (vi ((n : Int) - 1)), vIs (.bool true), vIs (.bool false), vIs (.bool false), vIs (.int .i64 k), vIs (.bool true), vIs (.bool true), vIs (.pointer (some ⟨(w.heap.size + 1), 1, none⟩)), vIs (.slice (some ⟨ub, uo, none⟩) u.beds.length u.c), vIs (.int .i64 k), vIs (.pointer (some ⟨ub, uo + k, none⟩)), vIs (vi p), vIs (.pointer (some ⟨(w.heap.size + 1), 1, none⟩)), vIs (.slice (some ⟨ub, uo, none⟩) u.beds.length u.c), vIs (.int .i64 k), vIs (.int .i64 km), vIs (.pointer (some ⟨ub, uo + km, none⟩)), vIs (vi p2), vIs (vi (p - p2)), vIs (.bool false), vIs (.bool true), vIs (.bool true)] (by repeat' first | refine And.intro ?_ ?_ | exact trivial | exact rfl | (intro v W h; obtain rfl : v = _ := h; first | rfl | (simp; done) | (simp [undef]; done))) (by repeat' first | refine And.intro ?_ ?_ | exact trivial | exact (fun h => Bool.noConfusion (show false = true from h)) | exact (fun _ _ => rfl)) (fun h k => newer_trans h k) (pickD_stable _ (by repeat' first | refine And.intro ?_ ?_ | exact trivial | exact vIs_st)) (Below.refl _ wr).drew (Below.refl _ _) ?_ ?_)
         ·refine ⟨.inr ?_, .inr ?_, .inr ?_, .inr ?_, .inr ?_, .inr ?_, .inr ?_, .inr ?_, .inr ?_, .inr ?_, .inr ?_, .inr ?_, .inr ?_, .inr ?_, .inr ?_, .inr ?_, .inr ?_, .inr ?_, .inr ?_, .inr ?_, .inr ?_, .inr ?_, .inr ?_, .inr ?_, .inr ?_, .inr ?_, .inr ?_, .inr ?_, .inr ?_, .inr ?_, .inr ?_, .inr ?_, trivial⟩
          ·intro a W hG hR hO hp; have h3 := hO.slot 3 (by kernel_rfl); refine kY (v := .pointer (some ⟨(w.heap.size + 1), 1, none⟩)) hG rfl ?_; simp [slotOf] at h3; simp [execOp, go_sem, h3]
          ·intro a W hG hR hO hp; have h37 : slotOf a 37 = .pointer (some ⟨(w.heap.size + 1), 1, none⟩) := hp.1; have c0 := keep_cell u1 hG; refine kY (v := .slice (some ⟨ub, uo, none⟩) u.beds.length u.c) hG rfl ?_; simp [slotOf] at h37; simp [execOp, go_sem, h37, c0]
          ·exact fun a W hG _ hO _ => kM 6 rfl (hO.slot 6 (by kernel_rfl)) rfl hG
          ·intro a W hG hR hO hp; have h38 : slotOf a 38 = .slice (some ⟨ub, uo, none⟩) u.beds.length u.c := hp.1; have h39 : slotOf a 39 = .int .i64 k := hp.2.1; refine kY (v := .pointer (some ⟨ub, uo + k, none⟩)) hG rfl ?_; simp [slotOf] at h38 h39; simp [execOp, go_sem, h38, h39, hki]
          ·intro a W hG hR hO hp; have h40 : slotOf a 40 = .pointer (some ⟨ub, uo + k, none⟩) := hp.1; have c0 := keep_cell d0 hG; refine kY (v := vi p) hG rfl ?_; simp [slotOf] at h40; simp [execOp, go_sem, h40, c0]
          ·intro a W hG hR hO hp; have h2 := hO.slot 2 (by kernel_rfl); refine kY (v := .pointer (some ⟨w.heap.size, 0, none⟩)) hG rfl ?_; simp [slotOf] at h2; simp [execOp, go_sem, h2]
          ·intro a W hG hR hO hp; have h42 : slotOf a 42 = .pointer (some ⟨w.heap.size, 0, none⟩) := hp.1; have c0 := keep_cell x0 hG; refine kY (v := .slice (some ⟨b1, o1, none⟩) s.cs.length s.c) hG rfl ?_; simp [slotOf] at h42; simp [execOp, go_sem, h42, c0]
          ·intro a W hG hR hO hp; have h43 : slotOf a 43 = .slice (some ⟨b1, o1, none⟩) s.cs.length s.c := hp.1; refine kY (v := .pointer (some ⟨b1, o1, none⟩)) hG rfl ?_; simp [slotOf] at h43; simp [execOp, go_sem, h43, hcne]
          ·intro a W hG hR hO hp; have h44 : slotOf a 44 = .pointer (some ⟨b1, o1, none⟩) := hp.1; have c0 := keep_cell cy hG; refine kY (v := .slice y0.a n y0.cp) hG rfl ?_; simp [slotOf] at h44; simp [execOp, go_sem, h44, c0]
          ·intro a W hG hR hO hp; have h45 : slotOf a 45 = .slice y0.a n y0.cp := hp.1; refine kY (v := .int .i64 n) hG rfl ?_; simp [slotOf] at h45; simp [go_sem, h45]
          ·intro a W hG hR hO hp; have h46 : slotOf a 46 = .int .i64 n := hp.1; refine kY (v := vi ((n : Int) - 1)) hG rfl ?_; simp [slotOf] at h46; simp [execOp, go_sem, h46, c47]
          ·intro a W hG hR hO hp
           have h41 : slotOf a 41 = vi p := hp.1
           have h47 : slotOf a 47 = vi ((n : Int) - 1) := hp.2.1
           refine wp_enters (f := 50) (args := #[vi p, vi 0, vi ((n : Int) - 1)]) ?_ ((HC1.out W).mono ?_)
           ·simp [slotOf] at h41 h47
            simp [go_sem, h41, h47]
           ·rintro e w' ⟨rfl, rfl⟩
            exact ⟨_, rfl, _, rfl, rfl, Below.refl _ _, hG⟩
          ·intro a W hG hR hO hp; have h48 : slotOf a 48 = .bool true := hp.1; refine kY (v := .bool false) hG rfl ?_; simp [slotOf] at h48; simp [execOp, go_sem, h48]
          ·exact fun a W hG _ _ hp => kM 49 rfl hp.1 rfl hG
          ·exact fun a W hG _ hO _ => kM 6 rfl (hO.slot 6 (by kernel_rfl)) rfl hG
          ·intro a W hG hR hO hp; have h51 : slotOf a 51 = .int .i64 k := hp.1; refine kY (v := .bool true) hG rfl ?_; simp [slotOf] at h51; simp [execOp, go_sem, h51, HKP.out]
          ·exact fun a W hG _ _ hp => kM 52 rfl hp.1 rfl hG
          ·intro a W hG hR hO hp; have h3 := hO.slot 3 (by kernel_rfl); refine kY (v := .pointer (some ⟨(w.heap.size + 1), 1, none⟩)) hG rfl ?_; simp [slotOf] at h3; simp [execOp, go_sem, h3]
          ·intro a W hG hR hO hp; have h54 : slotOf a 54 = .pointer (some ⟨(w.heap.size + 1), 1, none⟩) := hp.1; have c0 := keep_cell u1 hG; refine kY (v := .slice (some ⟨ub, uo, none⟩) u.beds.length u.c) hG rfl ?_; simp [slotOf] at h54; simp [execOp, go_sem, h54, c0]
          ·exact fun a W hG _ hO _ => kM 6 rfl (hO.slot 6 (by kernel_rfl)) rfl hG
          ·intro a W hG hR hO hp; have h55 : slotOf a 55 = .slice (some ⟨ub, uo, none⟩) u.beds.length u.c := hp.1; have h56 : slotOf a 56 = .int .i64 k := hp.2.1; refine kY (v := .pointer (some ⟨ub, uo + k, none⟩)) hG rfl ?_; simp [slotOf] at h55 h56; simp [execOp, go_sem, h55, h56, hki]
          ·intro a W hG hR hO hp; have h57 : slotOf a 57 = .pointer (some ⟨ub, uo + k, none⟩) := hp.1; have c0 := keep_cell d0 hG; refine kY (v := vi p) hG rfl ?_; simp [slotOf] at h57; simp [execOp, go_sem, h57, c0]
          ·intro a W hG hR hO hp; have h3 := hO.slot 3 (by kernel_rfl); refine kY (v := .pointer (some ⟨(w.heap.size + 1), 1, none⟩)) hG rfl ?_; simp [slotOf] at h3; simp [execOp, go_sem, h3]
          ·intro a W hG hR hO hp; have h59 : slotOf a 59 = .pointer (some ⟨(w.heap.size + 1), 1, none⟩) := hp.1; have c0 := keep_cell u1 hG; refine kY (v := .slice (some ⟨ub, uo, none⟩) u.beds.length u.c) hG rfl ?_; simp [slotOf] at h59; simp [execOp, go_sem, h59, c0]
          ·exact fun a W hG _ hO _ => kM 6 rfl (hO.slot 6 (by kernel_rfl)) rfl hG
          ·intro a W hG hR hO hp; have h61 : slotOf a 61 = .int .i64 k := hp.1; refine kY (v := .int .i64 km) hG rfl ?_; simp [slotOf] at h61; simp [execOp, go_sem, h61, c62]
          ·intro a W hG hR hO hp; have h60 : slotOf a 60 = .slice (some ⟨ub, uo, none⟩) u.beds.length u.c := hp.1; have h62 : slotOf a 62 = .int .i64 km := hp.2.1; refine kY (v := .pointer (some ⟨ub, uo + km, none⟩)) hG rfl ?_; simp [slotOf] at h60 h62; simp [execOp, go_sem, h60, h62, hkm]
          ·intro a W hG hR hO hp; have h63 : slotOf a 63 = .pointer (some ⟨ub, uo + km, none⟩) := hp.1; have c0 := keep_cell d1 hG; refine kY (v := vi p2) hG rfl ?_; simp [slotOf] at h63; simp [execOp, go_sem, h63, c0]
          ·intro a W hG hR hO hp; have h58 : slotOf a 58 = vi p := hp.1; have h64 : slotOf a 64 = vi p2 := hp.2.1; refine kY (v := vi (p - p2)) hG rfl ?_; simp [slotOf] at h58 h64; simp [execOp, go_sem, h58, h64, c65]
          ·intro a W hG hR hO hp
           have h65 : slotOf a 65 = vi (p - p2) := hp.1
           refine wp_enters (f := 50) (args := #[vi (p - p2), vi (-1), vi 1]) ?_ ((HC2.out W).mono ?_)
           ·simp [slotOf] at h65
            simp [go_sem, h65]
           ·rintro e w' ⟨rfl, rfl⟩
            exact ⟨_, rfl, _, rfl, rfl, Below.refl _ _, hG⟩
          ·intro a W hG hR hO hp; have h66 : slotOf a 66 = .bool false := hp.1; refine kY (v := .bool true) hG rfl ?_; simp [slotOf] at h66; simp [execOp, go_sem, h66]
          ·intro a W hG hR hO hp; have h53 : slotOf a 53 = .bool true := hp.1; have h67 : slotOf a 67 = .bool true := hp.2.1; refine kY (v := .bool true) hG rfl ?_; simp [slotOf] at h53 h67; simp [execOp, go_sem, h53, h67]
         ·intro W hG hR
          rintro _ rfl _ rfl _ rfl _ rfl _ rfl _ rfl _ rfl _ rfl _ rfl _ rfl _ rfl _ rfl _ rfl _ rfl _ rfl _ rfl _ rfl _ rfl _ rfl _ rfl _ rfl _ rfl _ rfl _ rfl _ rfl _ rfl _ rfl _ rfl _ rfl _ rfl _ rfl _ rfl
          change wpList _ _ _ _ _ _
          simp only [Act.put, List.setIfInBounds_toArray, List.set_cons_zero, List.set_cons_succ, List.drop_succ_cons, List.drop_zero]
          have HE := Lib.hid (newer_trans HG.out.2 hG)
          clear hG hR x0 u1 cy d0 d1 c47 c62 c65
          go_wp2_with fail
          go_ret
          exact ⟨rfl, HE.out⟩
        | true =>
         rw [hr2] at HC2 hok
         have HS := Lib.hid (goodTo_succ HG.out.1 hok)
         clear hr2 hok
         go_upto_region 7 with fail
         refine wp_words (by kernel_rfl) (region_told_u 32 (by kernel_rfl) (by kernel_rfl) [false, false, false, false, false, false, false, false, false, false, false, false, false, false, false, false, false, false, false, false, false, false, false, false, false, false, false, false, false, false, false, false] (fun W => Below wr.heap.size wr W) newer [vIs (.pointer (some ⟨(w.heap.size + 1), 1, none⟩)), vIs (.slice (some ⟨ub, uo, none⟩) u.beds.length u.c), vIs (.int .i64 k), vIs (.pointer (some ⟨ub, uo + k, none⟩)), vIs (vi p), vIs (.pointer (some ⟨w.heap.size, 0, none⟩)), vIs (.slice (some ⟨b1, o1, none⟩) s.cs.length s.c), vIs (.pointer (some ⟨b1, o1, none⟩)), vIs (.slice y0.a n y0.cp), vIs (.int .i64 n), vIs (vi ((n : Int) - 1)), vIs (.bool true), vIs (.bool false), vIs (.bool false), vIs (.int .i64 k), vIs (.bool true), vIs (.bool true), vIs (.pointer (some ⟨(w.heap.size + 1), 1, none⟩)), vIs (.slice (some ⟨ub, uo, none⟩) u.beds.length u.c), vIs (.int .i64 k), vIs (.pointer (some ⟨ub, uo + k, none⟩)), vIs (vi p), vIs (.pointer (some ⟨(w.heap.size + 1), 1, none⟩)), vIs (.slice (some ⟨ub, uo, none⟩) u.beds.length u.c), vIs (.int .i64 k), vIs (.int .i64 km), vIs (.pointer (some ⟨ub, uo + km, none⟩)), vIs (vi p2), vIs (vi (p - p2)), vIs (.bool true), vIs (.bool false), vIs (.bool false)] (by repeat' first | refine And.intro ?_ ?_ | exact trivial | exact rfl | (intro v W h; obtain rfl : v = _ := h; first | rfl | (simp; done) | (simp [undef]; done))) (by repeat' first | refine And.intro ?_ ?_ | exact trivial | exact (fun h => Bool.noConfusion (show false = true from h)) | exact (fun _ _ => rfl)) (fun h k => newer_trans h k) (pickD_stable _ (by repeat' first | refine And.intro ?_ ?_ | exact trivial | exact vIs_st)) (Below.refl _ wr).drew (Below.refl _ _) ?_ ?_)
         ·refine ⟨.inr ?_, .inr ?_, .inr ?_, .inr ?_, .inr ?_, .inr ?_, .inr ?_, .inr ?_, .inr ?_, .inr ?_, .inr ?_, .inr ?_, .inr ?_, .inr ?_, .inr ?_, .inr ?_, .inr ?_, .inr ?_, .inr ?_, .inr ?_, .inr ?_, .inr ?_, .inr ?_, .inr ?_, .inr ?_, .inr ?_, .inr ?_, .inr ?_, .inr ?_, .inr ?_, .inr ?_, .inr ?_, trivial⟩
          ·intro a W hG hR hO hp; have h3 := hO.slot 3 (by kernel_rfl); refine kY (v := .pointer (some ⟨(w.heap.size + 1), 1, none⟩)) hG rfl ?_; simp [slotOf] at h3; simp [execOp, go_sem, h3]
          ·intro a W hG hR hO hp; have h37 : slotOf a 37 = .pointer (some ⟨(w.heap.size + 1), 1, none⟩) := hp.1; have c0 := keep_cell u1 hG; refine kY (v := .slice (some ⟨ub, uo, none⟩) u.beds.length u.c) hG rfl ?_; simp [slotOf] at h37; simp [execOp, go_sem, h37, c0]
          ·exact fun a W hG _ hO _ => kM 6 rfl (hO.slot 6 (by kernel_rfl)) rfl hG
          ·intro a W hG hR hO hp; have h38 : slotOf a 38 = .slice (some ⟨ub, uo, none⟩) u.beds.length u.c := hp.1; have h39 : slotOf a 39 = .int .i64 k := hp.2.1; refine kY (v := .pointer (some ⟨ub, uo + k, none⟩)) hG rfl ?_; simp [slotOf] at h38 h39; simp [execOp, go_sem, h38, h39, hki]
          ·intro a W hG hR hO hp; have h40 : slotOf a 40 = .pointer (some ⟨ub, uo + k, none⟩) := hp.1; have c0 := keep_cell d0 hG; refine kY (v := vi p) hG rfl ?_; simp [slotOf] at h40; simp [execOp, go_sem, h40, c0]
          ·intro a W hG hR hO hp; have h2 := hO.slot 2 (by kernel_rfl); refine kY (v := .pointer (some ⟨w.heap.size, 0, none⟩)) hG rfl ?_; simp [slotOf] at h2; simp [execOp, go_sem, h2]
          ·intro a W hG hR hO hp; have h42 : slotOf a 42 = .pointer (some ⟨w.heap.size, 0, none⟩) := hp.1; have c0 := keep_cell x0 hG; refine kY (v := .slice (some ⟨b1, o1, none⟩) s.cs.length s.c) hG rfl ?_; simp [slotOf] at h42; simp [execOp, go_sem, h42, c0]
          ·intro a W hG hR hO hp; have h43 : slotOf a 43 = .slice (some ⟨b1, o1, none⟩) s.cs.length s.c := hp.1; refine kY (v := .pointer (some ⟨b1, o1, none⟩)) hG rfl ?_; simp [slotOf] at h43; simp [execOp, go_sem, h43, hcne]
          ·intro a W hG hR hO hp; have h44 : slotOf a 44 = .pointer (some ⟨b1, o1, none⟩) := hp.1; have c0 := keep_cell cy hG; refine kY (v := .slice y0.a n y0.cp) hG rfl ?_; simp [slotOf] at h44; simp [execOp, go_sem, h44, c0]
          ·intro a W hG hR hO hp; have h45 : slotOf a 45 = .slice y0.a n y0.cp := hp.1; refine kY (v := .int .i64 n) hG rfl ?_; simp [slotOf] at h45; simp [go_sem, h45]
          ·intro a W hG hR hO hp; have h46 : slotOf a 46 = .int .i64 n := hp.1; refine kY (v := vi ((n : Int) - 1)) hG rfl ?_; simp [slotOf] at h46; simp [execOp, go_sem, h46, c47]
          ·intro a W hG hR hO hp
           have h41 : slotOf a 41 = vi p := hp.1
           have h47 : slotOf a 47 = vi ((n : Int) - 1) := hp.2.1
           refine wp_enters (f := 50) (args := #[vi p, vi 0, vi ((n : Int) - 1)]) ?_ ((HC1.out W).mono ?_)
           ·simp [slotOf] at h41 h47
            simp [go_sem, h41, h47]
           ·rintro e w' ⟨rfl, rfl⟩
            exact ⟨_, rfl, _, rfl, rfl, Below.refl _ _, hG⟩
          ·intro a W hG hR hO hp; have h48 : slotOf a 48 = .bool true := hp.1; refine kY (v := .bool false) hG rfl ?_; simp [slotOf] at h48; simp [execOp, go_sem, h48]
          ·exact fun a W hG _ _ hp => kM 49 rfl hp.1 rfl hG
          ·exact fun a W hG _ hO _ => kM 6 rfl (hO.slot 6 (by kernel_rfl)) rfl hG
          ·intro a W hG hR hO hp; have h51 : slotOf a 51 = .int .i64 k := hp.1; refine kY (v := .bool true) hG rfl ?_; simp [slotOf] at h51; simp [execOp, go_sem, h51, HKP.out]
          ·exact fun a W hG _ _ hp => kM 52 rfl hp.1 rfl hG
          ·intro a W hG hR hO hp; have h3 := hO.slot 3 (by kernel_rfl); refine kY (v := .pointer (some ⟨(w.heap.size + 1), 1, none⟩)) hG rfl ?_; simp [slotOf] at h3; simp [execOp, go_sem, h3]
          ·intro a W hG hR hO hp; have h54 : slotOf a 54 = .pointer (some ⟨(w.heap.size + 1), 1, none⟩) := hp.1; have c0 := keep_cell u1 hG; refine kY (v := .slice (some ⟨ub, uo, none⟩) u.beds.length u.c) hG rfl ?_; simp [slotOf] at h54; simp [execOp, go_sem, h54, c0]
          ·exact fun a W hG _ hO _ => kM 6 rfl (hO.slot 6 (by kernel_rfl)) rfl hG
          ·intro a W hG hR hO hp; have h55 : slotOf a 55 = .slice (some ⟨ub, uo, none⟩) u.beds.length u.c := hp.1; have h56 : slotOf a 56 = .int .i64 k := hp.2.1; refine kY (v := .pointer (some ⟨ub, uo + k, none⟩)) hG rfl ?_; simp [slotOf] at h55 h56; simp [execOp, go_sem, h55, h56, hki]
          ·intro a W hG hR hO hp; have h57 : slotOf a 57 = .pointer (some ⟨ub, uo + k, none⟩) := hp.1; have c0 := keep_cell d0 hG; refine kY (v := vi p) hG rfl ?_; simp [slotOf] at h57; simp [execOp, go_sem, h57, c0]
          ·intro a W hG hR hO hp; have h3 := hO.slot 3 (by kernel_rfl); refine kY (v := .pointer (some ⟨(w.heap.size + 1), 1, none⟩)) hG rfl ?_; simp [slotOf] at h3; simp [execOp, go_sem, h3]
          ·intro a W hG hR hO hp; have h59 : slotOf a 59 = .pointer (some ⟨(w.heap.size + 1), 1, none⟩) := hp.1; have c0 := keep_cell u1 hG; refine kY (v := .slice (some ⟨ub, uo, none⟩) u.beds.length u.c) hG rfl ?_; simp [slotOf] at h59; simp [execOp, go_sem, h59, c0]
          ·exact fun a W hG _ hO _ => kM 6 rfl (hO.slot 6 (by kernel_rfl)) rfl hG
          ·intro a W hG hR hO hp; have h61 : slotOf a 61 = .int .i64 k := hp.1; refine kY (v := .int .i64 km) hG rfl ?_; simp [slotOf] at h61; simp [execOp, go_sem, h61, c62]
          ·intro a W hG hR hO hp; have h60 : slotOf a 60 = .slice (some ⟨ub, uo, none⟩) u.beds.length u.c := hp.1; have h62 : slotOf a 62 = .int .i64 km := hp.2.1; refine kY (v := .pointer (some ⟨ub, uo + km, none⟩)) hG rfl ?_; simp [slotOf] at h60 h62; simp [execOp, go_sem, h60, h62, hkm]
          ·intro a W hG hR hO hp; have h63 : slotOf a 63 = .pointer (some ⟨ub, uo + km, none⟩) := hp.1; have c0 := keep_cell d1 hG; refine kY (v := vi p2) hG rfl ?_; simp [slotOf] at h63; simp [execOp, go_sem, h63, c0]
          ·intro a W hG hR hO hp; have h58 : slotOf a 58 = vi p := hp.1; have h64 : slotOf a 64 = vi p2 := hp.2.1; refine kY (v := vi (p - p2)) hG rfl ?_; simp [slotOf] at h58 h64; simp [execOp, go_sem, h58, h64, c65]
          ·intro a W hG hR hO hp
           have h65 : slotOf a 65 = vi (p - p2) := hp.1
           refine wp_enters (f := 50) (args := #[vi (p - p2), vi (-1), vi 1]) ?_ ((HC2.out W).mono ?_)
           ·simp [slotOf] at h65
            simp [go_sem, h65]
           ·rintro e w' ⟨rfl, rfl⟩
            exact ⟨_, rfl, _, rfl, rfl, Below.refl _ _, hG⟩
          ·intro a W hG hR hO hp; have h66 : slotOf a 66 = .bool true := hp.1; refine kY (v := .bool false) hG rfl ?_; simp [slotOf] at h66; simp [execOp, go_sem, h66]
          ·intro a W hG hR hO hp; have h53 : slotOf a 53 = .bool true := hp.1; have h67 : slotOf a 67 = .bool false := hp.2.1; refine kY (v := .bool false) hG rfl ?_; simp [slotOf] at h53 h67; simp [execOp, go_sem, h53, h67]
         ·intro W hG hR
          rintro _ rfl _ rfl _ rfl _ rfl _ rfl _ rfl _ rfl _ rfl _ rfl _ rfl _ rfl _ rfl _ rfl _ rfl _ rfl _ rfl _ rfl _ rfl _ rfl _ rfl _ rfl _ rfl _ rfl _ rfl _ rfl _ rfl _ rfl _ rfl _ rfl _ rfl _ rfl _ rfl
          change wpList _ _ _ _ _ _
          simp only [Act.put, List.setIfInBounds_toArray, List.set_cons_zero, List.set_cons_succ, List.drop_succ_cons, List.drop_zero]
          have HE := Lib.hid (And.intro (newer_trans HG.out.2 hG) (And.intro (HW.out.1.below hG HW.out.1.lt) (And.intro (HW.out.2.1.below hG HW.out.2.1.lt) (newer_trans HW.out.2.2 hG))))
          clear hG hR x0 u1 cy d0 d1 c47 c62 c65
          go_wp2_with fail
          refine ⟨⟨k + 1, by omega, rfl, HS.out, HE.out.1, HE.out.2.1, HE.out.2.2.1, HE.out.2.2.2⟩, ?_⟩
          simp [intOf]
          omega
     ·obtain rfl : k = u.beds.length := by omega
      have hr2 : r = true := HQ2.out q2
      subst hr2
      go_wp2_with fail
      go_ret
      exact ⟨rfl, q3⟩
end

section
open Go.RowKit Go.Shelf Go.Deep
structure CvJ (s : Sm) (i : Nat) (xs : List Cl) (A : Option Addr) (c : Nat) (w W : World) : Prop where
 nw : newer w W
 xb : Whole W w.heap.size 24 (smC s)
 rb : Whole W (w.heap.size + 1) 37 #[.slice none 0 0, vi 0]
 ob : Whole W (w.heap.size + 1 + 1) 37 #[.slice A xs.length c, vi s.least]
 own : W.ownsRow w.heap.size 105 1 (.slice A xs.length c) xs.length (xs.flatMap clL)
 col : ∀ x ∈ xs, W.ownsRow w.heap.size 104 8 (.slice x.a x.beds.length x.cp) x.beds.length (x.beds.flatMap bdL)
 eq : xs.map (fun x => x.beds) = (s.cs.take i).map fun x => x.beds
 ln : xs.length = i
section
variable {s : Sm} {i : Nat} {xs : List Cl} {A : Option Addr} {c : Nat} {w W W' : World}
theorem CvJ.next (h : CvJ s i xs A c w W) (hb : newer W W') : CvJ s i xs A c w W' :=
 ⟨newer_trans h.nw hb, h.xb.below hb h.xb.lt, h.rb.below hb h.rb.lt, h.ob.below hb h.ob.lt, own_below h.own hb, fun x hx => own_below (h.col x hx) hb, h.eq, h.ln⟩
theorem CvJ.add (h : CvJ s i xs A c w W) {x y : Cl} (hx : s.cs[i]? = some x) (hy : y.beds = x.beds) (hc : W.ownsRow w.heap.size 104 8 (.slice y.a y.beds.length y.cp) y.beds.length (y.beds.flatMap bdL))
  {g2 c2 : Nat} (hown : W'.ownsRow w.heap.size 105 1 (.slice (some ⟨g2, 0, none⟩) (xs.length + 1) c2) (xs.length + 1) (xs.flatMap clL ++ [clV y])) (hw : (A = some ⟨g2, 0, none⟩ /\ c2 = c /\ W.grownBy W' (some g2)) ∨ (W.heap.size <= g2 /\ W.grownBy W' none)) :
  Whole W' (w.heap.size + 1 + 1) 37 #[.slice A xs.length c, vi s.least] /\ CvJ s (i + 1) (xs ++ [y]) (some ⟨g2, 0, none⟩) c2 w (W'.setCell ⟨w.heap.size + 1 + 1, 0, none⟩ (.slice (some ⟨g2, 0, none⟩) (xs.length + 1) c2)) := by
 have hgr : W.grownBy W' (Value.slice A xs.length c).ownBlock := by
  rcases hw with ⟨h1, _, h3⟩ | ⟨_, h3⟩
  ·rw [h1]; exact h3
  ·exact h3.but _
 have k1 := h.xb.grown hgr (fun e => own_ne h.own h.xb (by decide) e.symm)
 have k2 := h.rb.grown hgr (fun e => own_ne h.own h.rb (by decide) e.symm)
 have k3 := h.ob.grown hgr (fun e => own_ne h.own h.ob (by decide) e.symm)
 have k4 : ∀ z : Cl, W.ownsRow w.heap.size 104 8 (.slice z.a z.beds.length z.cp) z.beds.length (z.beds.flatMap bdL) -> W'.ownsRow w.heap.size 104 8 (.slice z.a z.beds.length z.cp) z.beds.length (z.beds.flatMap bdL) := fun z h2 => h2.kept hgr (own_apart h2 h.own (by decide))
 have hnw : newer w W' := by
  rcases hw with ⟨h1, _, h3⟩ | ⟨_, h3⟩
  ·refine Below.trans h.nw (below_of_grown h3 (own_ge h.own g2 (by rw [h1]; rfl)) h.nw.size)
  ·exact newer_trans h.nw (below_grown h3 (fun q e => by cases e) (Nat.le_refl _))
 refine ⟨k3, hnw.setCell (p := ⟨w.heap.size + 1 + 1, 0, none⟩) (by show w.heap.size <= w.heap.size + 1 + 1; omega) _, k1.far (p := ⟨w.heap.size + 1 + 1, 0, none⟩) (by show w.heap.size ≠ w.heap.size + 1 + 1; omega) _, k2.far (p := ⟨w.heap.size + 1 + 1, 0, none⟩) (by show w.heap.size + 1 ≠ w.heap.size + 1 + 1; omega) _, ?_, ?_, fun z hz => ?_, ?_, by rw [List.length_append, h.ln]; rfl⟩
 ·rw [List.length_append]
  exact k3.set 0 _
 ·rw [List.length_append, List.flatMap_append]
  exact own_set hown (own_ne hown k3 (by decide)) _
 ·rcases List.mem_append.1 hz with hz | hz
  ·have h3 := k4 z (h.col z hz)
   exact own_set h3 (own_ne h3 k3 (by decide)) _
  ·obtain rfl : z = y := List.mem_singleton.1 hz
   have h3 := k4 z hc
   exact own_set h3 (own_ne h3 k3 (by decide)) _
 ·rw [List.map_append, h.eq, List.take_add_one, hx, List.map_append]
  congr 1
  simp [hy]
theorem CvJ.done (h : CvJ s s.cs.length xs A c w W) (u v : Value) : SmOk ⟨xs, A, c, s.least⟩ ((W.setCell ⟨w.heap.size + 1, 0, none⟩ u).setCell ⟨w.heap.size + 1, 1, none⟩ v) /\ Sm.sd ⟨xs, A, c, s.least⟩ = s.sd /\ newer w ((W.setCell ⟨w.heap.size + 1, 0, none⟩ u).setCell ⟨w.heap.size + 1, 1, none⟩ v) /\ Whole ((W.setCell ⟨w.heap.size + 1, 0, none⟩ u).setCell ⟨w.heap.size + 1, 1, none⟩ v) (w.heap.size + 1) 37 #[u, v] := by
 refine ⟨⟨?_, fun x hx => ?_⟩, ?_, (h.nw.setCell (p := ⟨w.heap.size + 1, 0, none⟩) (Nat.le_succ _) u).setCell (p := ⟨w.heap.size + 1, 1, none⟩) (Nat.le_succ _) v, (h.rb.set 0 u).set 1 v⟩
 ·exact row_of_own (by omega) (fun _ => rfl) (own_set (own_set h.own (own_ne h.own h.rb (by decide)) u) (own_ne h.own h.rb (by decide)) v)
 ·have h2 := h.col x hx
  exact row_of_own (by omega) (fun _ => rfl) (own_set (own_set h2 (own_ne h2 h.rb (by decide)) u) (own_ne h2 h.rb (by decide)) v)
 ·have e := h.eq
  rw [List.take_length] at e
  show (⟨xs.map (fun x => x.beds), s.least⟩ : Sd) = ⟨s.cs.map fun x => x.beds, s.least⟩
  rw [e]
end
set_option maxRecDepth 100000 in
set_option maxHeartbeats 2000000 in
theorem lawSlope (s : Sm) (w : World) (hok : SmOk s w) (few : SmFew s) : Calls Try.prog 19 #[smV s] w fun e w' => ∃ s2 : Sm, e = .returned (smV s2) /\ s2.sd = s.sd /\ SmOk s2 w' /\ newer w w' := by
 have H0 : Hid (CvJ s 0 [] none 0 w (((w.alloc (.cells (smC s) 24)).alloc (.cells #[.slice none 0 0, vi 0] 37)).alloc (.cells #[.slice none 0 0, vi s.least] 37))) := Lib.hid (by
  have e1 := newer_allocH w (.cells (smC s) 24)
  have e2 := newer_allocH (w.alloc (.cells (smC s) 24)) (.cells #[.slice none 0 0, vi 0] 37)
  have e3 := newer_allocH ((w.alloc (.cells (smC s) 24)).alloc (.cells #[.slice none 0 0, vi 0] 37)) (.cells #[.slice none 0 0, vi s.least] 37)
  have a1 := Whole.made w 24 (smC s)
  have a2 := Whole.made (w.alloc (.cells (smC s) 24)) 37 #[.slice none 0 0, vi 0]
  have a3 := Whole.made ((w.alloc (.cells (smC s) 24)).alloc (.cells #[.slice none 0 0, vi 0] 37)) 37 #[.slice none 0 0, vi s.least]
  rw [World.size_alloc] at a2
  rw [World.size_alloc, World.size_alloc] at a3
  exact ⟨newer_trans (newer_trans e1 e2) e3, (a1.below e2 a1.lt).below e3 (by simp; omega), a2.below e3 a2.lt, a3, ⟨rfl, .inl ⟨rfl, rfl⟩⟩, fun x hx => by simp at hx, rfl, rfl⟩)
 have HOK := Lib.hid hok
 have HFW := Lib.hid few
 have hcl := few.cs
 obtain ⟨i0, hi0, hz0, hz1, hz2⟩ := info_parts info_col
 have HI := Lib.hid (And.intro hi0 (And.intro hz0 (And.intro hz1 hz2)))
 obtain ⟨i8, hj0, hy0, hy1, hy2⟩ := info_parts info_bd
 have HI8 := Lib.hid (And.intro hj0 (And.intro hy0 (And.intro hy1 hy2)))
 have x1 := H0.out.xb.at 1 (v := vi s.least) rfl
 clear hok few hi0 hz0 hz1 hz2 hj0 hy0 hy1 hy2
 go_enter Try.func19, Try.ntmps19
 go_wp2_with fail
 clear x1
 go_loopw [4] (fun s4 wr => ∃ (i : Nat) (xs : List Cl) (A : Option Addr) (c : Nat), i <= s.cs.length /\ s4 = vi i /\ CvJ s i xs A c w wr) (fun s4 _ => s.cs.length - (intOf s4).toNat)
 case atStart => exact ⟨0, [], none, 0, Nat.zero_le _, rfl, H0.out⟩
 case round =>
  obtain ⟨i, xs, A, c, hi, rfl, hj⟩ := hrel
  clear H0
  have HJ := Lib.hid hj
  have x0 := hj.xb.at 0 (v := .slice s.a s.cs.length s.c) rfl
  clear hj
  obtain ⟨wo, rfl⟩ : ∃ wo : World, wo = wr := ⟨_, rfl⟩
  by_cases hlt : i < s.cs.length
  ·obtain ⟨x, hx⟩ := get_of_lt hlt
   have hxn := HFW.out.bd x (List.mem_of_getElem? hx)
   have HX := Lib.hid (And.intro hx (List.mem_of_getElem? hx))
   obtain ⟨b1, o1, ea, _, cx⟩ := rowC (HOK.out.next HJ.out.nw).cs hx
   have HEA := Lib.hid (And.intro ea cx)
   clear hx cx ea
   go_wp2_with fail
   go_loopw [5, 6] (fun s5 s6 wr => ∃ (j : Nat) (A2 : Option Addr) (c2 : Nat), j <= x.beds.length /\ s6 = vi j /\ s5 = .slice A2 j c2 /\ newer wo wr /\ wr.ownsRow wo.heap.size 104 8 (.slice A2 j c2) j ((x.beds.take j).flatMap bdL)) (fun _ s6 _ => x.beds.length - (intOf s6).toNat)
   case atStart => exact ⟨0, none, 0, Nat.zero_le _, rfl, rfl, Below.refl _ _, ⟨rfl, .inl ⟨rfl, rfl⟩⟩⟩
   case round =>
    obtain ⟨j, A2, c2, hj, rfl, rfl, q1, q2⟩ := hrel
    clear x0
    have hj2 := HJ.out.next q1
    have HJ2 := Lib.hid hj2
    have x0 := hj2.xb.at 0 (v := .slice s.a s.cs.length s.c) rfl
    rw [HEA.out.1] at x0
    have cx := keep_cell HEA.out.2 q1
    have hii : (i : Int) < s.cs.length := by omega
    have HQ := Lib.hid (And.intro q1 q2)
    clear hj2 q1 q2
    by_cases hlt2 : j < x.beds.length
    ·obtain ⟨b, hb⟩ := get_of_lt hlt2
     obtain ⟨b4, o4, e4, _, d0, d1, d2, d3, d4, d5, d6, d7⟩ := row8 ((HOK.out.next HJ2.out.nw).bd x HX.out.2) hb
     rw [e4] at cx
     have hji : (j : Int) < x.beds.length := by omega
     have HB := Lib.hid hb
     have e5 := newer_allocH wr (.cells (bdC b) 69)
     have HE4 := Lib.hid (And.intro (newer_trans HQ.out.1 e5) (And.intro (own_below HQ.out.2 e5) (Whole.made wr 69 (bdC b))))
     clear hb e4 e5
     go_upto_region 10 with fail
     refine genQ (fun X => newer wo X /\ X.ownsRow wo.heap.size 104 8 (.slice A2 j c2) j ((x.beds.take j).flatMap bdL) /\ Whole X wr.heap.size 69 (bdC b)) HE4.out ?_
     clear HE4 d0 d1 d2 d3 d4 d5 d6 d7 cx x0
     obtain ⟨bb, hbb⟩ : ∃ bb, bb = wr.heap.size := ⟨_, rfl⟩
     rw [<- hbb]
     rintro w5 ⟨p1, p2, p4⟩
     have z0 := p4.at 0 (v := vi b.drive) rfl
     have z1 := p4.at 1 (v := vi b.normal) rfl
     have z2 := p4.at 2 (v := vi b.fr.lo) rfl
     have z3 := p4.at 3 (v := vi b.fr.hi) rfl
     have z4 := p4.at 4 (v := vi b.co.lo) rfl
     have z5 := p4.at 5 (v := vi b.co.hi) rfl
     have z6 := p4.at 6 (v := vi b.wa.lo) rfl
     have z7 := p4.at 7 (v := vi b.wa.hi) rfl
     have HE5 := Lib.hid (And.intro p1 p2)
     clear p1 p2 p4 hbb
     refine wp_words (by kernel_rfl) (region_told 16 (by kernel_rfl) (by kernel_rfl) (fun W => Below w5.heap.size w5 W) newer (pickD [vIs (.slice A2 j c2), vIs (.pointer (some ⟨bb, 0, none⟩)), vIs (vi b.drive), vIs (.pointer (some ⟨bb, 1, none⟩)), vIs (vi b.normal), vIs (.pointer (some ⟨bb, 2, none⟩)), vIs (rgV b.fr), vIs (rgV b.fr), vIs (.pointer (some ⟨bb, 4, none⟩)), vIs (rgV b.co), vIs (rgV b.co), vIs (.pointer (some ⟨bb, 6, none⟩)), vIs (rgV b.wa), vIs (rgV b.wa), vIs (bdV b), vOne w5.heap.size 104 (bdC b)]) (fun h k => newer_trans h k) (pickD_stable _ ⟨vIs_st, vIs_st, vIs_st, vIs_st, vIs_st, vIs_st, vIs_st, vIs_st, vIs_st, vIs_st, vIs_st, vIs_st, vIs_st, vIs_st, vIs_st, vOne_st, trivial⟩) (Below.refl _ w5).drew (Below.refl _ _) ?_ ?_)
     ·refine ⟨?_, ?_, ?_, ?_, ?_, ?_, ?_, ?_, ?_, ?_, ?_, ?_, ?_, ?_, ?_, ?_, trivial⟩
      ·exact fun a W hG _ hO _ => kM 5 rfl (hO.slot 5 (by kernel_rfl)) rfl hG
      ·intro a W hG hR hO hp; have h7 := hO.slot 7 (by kernel_rfl); refine kY (v := .pointer (some ⟨bb, 0, none⟩)) hG rfl ?_; simp [slotOf] at h7; simp [execOp, go_sem, h7]
      ·intro a W hG hR hO hp; have h37 : slotOf a 37 = .pointer (some ⟨bb, 0, none⟩) := hp.1; have c0 := keep_cell z0 hG; refine kY (v := vi b.drive) hG rfl ?_; simp [slotOf] at h37; simp [execOp, go_sem, h37, c0]
      ·intro a W hG hR hO hp; have h7 := hO.slot 7 (by kernel_rfl); refine kY (v := .pointer (some ⟨bb, 1, none⟩)) hG rfl ?_; simp [slotOf] at h7; simp [execOp, go_sem, h7]
      ·intro a W hG hR hO hp; have h39 : slotOf a 39 = .pointer (some ⟨bb, 1, none⟩) := hp.1; have c0 := keep_cell z1 hG; refine kY (v := vi b.normal) hG rfl ?_; simp [slotOf] at h39; simp [execOp, go_sem, h39, c0]
      ·intro a W hG hR hO hp; have h7 := hO.slot 7 (by kernel_rfl); refine kY (v := .pointer (some ⟨bb, 2, none⟩)) hG rfl ?_; simp [slotOf] at h7; simp [execOp, go_sem, h7]
      ·intro a W hG hR hO hp; have h41 : slotOf a 41 = .pointer (some ⟨bb, 2, none⟩) := hp.1; have c0 := keep_cell z2 hG; have c1 := keep_cell z3 hG; refine kY (v := rgV b.fr) hG rfl ?_; simp [slotOf] at h41; simp [execOp, go_sem, h41, c0, c1]
      ·intro a W hG hR hO hp
       have h42 : slotOf a 42 = rgV b.fr := hp.1
       refine wp_enters (f := 23) (args := #[rgV b.fr]) ?_ ((to_any b.fr W).mono ?_)
       ·simp [slotOf] at h42
        simp [go_sem, h42]
       ·rintro e w' ⟨rfl, hb⟩
        exact ⟨_, rfl, _, rfl, rfl, hb, below_next hG hb⟩
      ·intro a W hG hR hO hp; have h7 := hO.slot 7 (by kernel_rfl); refine kY (v := .pointer (some ⟨bb, 4, none⟩)) hG rfl ?_; simp [slotOf] at h7; simp [execOp, go_sem, h7]
      ·intro a W hG hR hO hp; have h44 : slotOf a 44 = .pointer (some ⟨bb, 4, none⟩) := hp.1; have c0 := keep_cell z4 hG; have c1 := keep_cell z5 hG; refine kY (v := rgV b.co) hG rfl ?_; simp [slotOf] at h44; simp [execOp, go_sem, h44, c0, c1]
      ·intro a W hG hR hO hp
       have h45 : slotOf a 45 = rgV b.co := hp.1
       refine wp_enters (f := 23) (args := #[rgV b.co]) ?_ ((to_any b.co W).mono ?_)
       ·simp [slotOf] at h45
        simp [go_sem, h45]
       ·rintro e w' ⟨rfl, hb⟩
        exact ⟨_, rfl, _, rfl, rfl, hb, below_next hG hb⟩
      ·intro a W hG hR hO hp; have h7 := hO.slot 7 (by kernel_rfl); refine kY (v := .pointer (some ⟨bb, 6, none⟩)) hG rfl ?_; simp [slotOf] at h7; simp [execOp, go_sem, h7]
      ·intro a W hG hR hO hp; have h47 : slotOf a 47 = .pointer (some ⟨bb, 6, none⟩) := hp.1; have c0 := keep_cell z6 hG; have c1 := keep_cell z7 hG; refine kY (v := rgV b.wa) hG rfl ?_; simp [slotOf] at h47; simp [execOp, go_sem, h47, c0, c1]
      ·intro a W hG hR hO hp
       have h48 : slotOf a 48 = rgV b.wa := hp.1
       refine wp_enters (f := 23) (args := #[rgV b.wa]) ?_ ((to_any b.wa W).mono ?_)
       ·simp [slotOf] at h48
        simp [go_sem, h48]
       ·rintro e w' ⟨rfl, hb⟩
        exact ⟨_, rfl, _, rfl, rfl, hb, below_next hG hb⟩
      ·intro a W hG hR hO hp; have h38 : slotOf a 38 = vi b.drive := hp.1; have h40 : slotOf a 40 = vi b.normal := hp.2.1; have h43 : slotOf a 43 = rgV b.fr := hp.2.2.1; have h46 : slotOf a 46 = rgV b.co := hp.2.2.2.1; have h49 : slotOf a 49 = rgV b.wa := hp.2.2.2.2.1; refine kY (v := bdV b) hG rfl ?_; simp [slotOf] at h38 h40 h43 h46 h49; simp [execOp, go_sem, h38, h40, h43, h46, h49]
      ·intro a W hG hR hO hp; have h50 : slotOf a 50 = bdV b := hp.1; refine wp_makes (v := .slice (some ⟨W.heap.size, 0, none⟩) 1 1) (W' := W.alloc (.cells (bdC b) 104)) ?_ ⟨_, rfl, ⟨_, rfl, hG.size, Whole.made _ _ _⟩, newer_allocH _ _, below_next hG (newer_allocH _ _)⟩; simp [slotOf] at h50; simp [execOp, go_sem, h50]
     ·intro wz hG hR
      rintro _ rfl _ rfl _ rfl _ rfl _ rfl _ rfl _ rfl _ rfl _ rfl _ rfl _ rfl _ rfl _ rfl _ rfl _ rfl _ ⟨nb, rfl, hnb, hW⟩
      change wpList _ _ _ _ _ _
      simp only [Act.put, List.setIfInBounds_toArray, List.set_cons_zero, List.set_cons_succ, List.drop_succ_cons, List.drop_zero]
      have HO := Lib.hid (own_below HE5.out.2 hG)
      have HN := Lib.hid (newer_trans HE5.out.1 hG)
      have HWN := Lib.hid (World.news_of_block hW)
      clear hG hR hW z0 z1 z2 z3 z4 z5 z6 z7
      go_wp2_with (at_builtin; go_loud ((refine wpList_append_lies _ rfl (.tmp 36) (.tmp 51) 105 rfl wo.heap.size 104 i8 (.agg #[vi 0, vi 0, vi 0, vi 0, vi 0, vi 0, vi 0, vi 0]) 8 64 Try.underlying105 HI8.out.1 HI8.out.2.1 HI8.out.2.2.1 HI8.out.2.2.2 rfl (by omega) _ j _ rfl HO.out ⟨nb, 0, none⟩ 1 1 (bdL b) rfl rfl HWN.out (by simp [Value.oneCell']) (by omega) (by unfold maxLen; omega) (by omega) HN.out.size wz.heap.size rfl ?_); intro gg cp2 w2 hown2 hgrow2 hat2 hlt3; rw [<- take_flat bdL _ j b HB.out] at hown2; have HE := Lib.hid (And.intro hown2 (And.intro hgrow2 (own_ge HO.out))); clear hown2 hgrow2 hat2 hlt3))
      refine ⟨⟨j + 1, some ⟨gg, 0, none⟩, cp2, by omega, rfl, rfl, ?_, HE.out.1⟩, ?_⟩
      ·exact below_grown (grown_trans' (grown_of_newer HN.out _) HE.out.2.1) HE.out.2.2 (Nat.le_refl _)
      ·simp [intOf]
       omega
    ·obtain rfl : j = x.beds.length := by omega
     have hown := HQ.out.2
     rw [List.take_of_length_le (Nat.le_refl _)] at hown
     obtain ⟨y, hy⟩ : ∃ y : Cl, y = ⟨x.beds, A2, c2⟩ := ⟨_, rfl⟩
     have hn1 := newer_allocH wr (.cells #[.slice A2 x.beds.length c2] 105)
     have hcy : clV y = .slice A2 x.beds.length c2 := by rw [hy]
     have HADD := Lib.hid (fun g2 c3 w5 => (HJ2.out.next hn1).add (W' := w5) HX.out.1 (y := y) (by rw [hy]) (by rw [hy]; exact own_more (own_below hown hn1) HJ.out.nw.size) (g2 := g2) (c2 := c3))
     have HJ3 := Lib.hid (HJ2.out.next hn1)
     have HXS := Lib.hid (show xs.length <= 1000 by have := HJ.out.ln; omega)
     have HCW : Hid ((wr.alloc (.cells #[.slice A2 x.beds.length c2] 105)).cell? ⟨wr.heap.size, 0, none⟩ = some (.slice A2 x.beds.length c2)) := Lib.hid ((Whole.made wr 105 #[.slice A2 x.beds.length c2]).at 0 rfl)
     rw [hcy] at HADD
     have o0 := HJ2.out.ob.at 0 (v := .slice A xs.length c) rfl
     clear hown hn1 hcy hy
     go_wp2_with (at_builtin; go_loud ((refine wpList_plain rfl fun _ hK => wp_append_one (.tmp 54) (.tmp 56) 35 rfl w.heap.size 105 i0 (.slice none 0 0) 24 Try.underlying35 HI.out.1 HI.out.2.1 HI.out.2.2.1 HI.out.2.2.2 rfl A xs.length c (xs.flatMap clL) rfl HJ3.out.own ⟨wr.heap.size, 0, none⟩ 1 (.slice A2 x.beds.length c2) rfl HCW.out rfl (by have := HXS.out; unfold maxLen; omega) (by have := HXS.out; omega) HJ3.out.nw.size fun g2 c3 w5 hown hwh => hK _ _ ?_); have HE := Lib.hid (HADD.out g2 c3 w5 hown hwh); have p0 := HE.out.1.at 0 (v := .slice A xs.length c) rfl; have pf0 := HE.out.1.free 0; clear hown hwh))
     refine ⟨⟨i + 1, xs ++ [y], some ⟨g2, 0, none⟩, c3, by omega, rfl, HE.out.2⟩, ?_⟩
     simp [intOf]
     omega
  ·obtain rfl : i = s.cs.length := by omega
   have o0 := HJ.out.ob.at 0 (v := .slice A xs.length c) rfl
   have o1 := HJ.out.ob.at 1 (v := vi s.least) rfl
   have r0 := HJ.out.rb.at 0 (v := .slice none 0 0) rfl
   have r1 := HJ.out.rb.at 1 (v := vi 0) rfl
   have f0 := HJ.out.rb.free 0
   have f1 := HJ.out.rb.free 1
   have HF := Lib.hid (HJ.out.done (.slice A xs.length c) (vi s.least))
   have z0 := HF.out.2.2.2.at 0 (v := .slice A xs.length c) rfl
   have z1 := HF.out.2.2.2.at 1 (v := vi s.least) rfl
   go_wp2_with fail
   exact bodyPost_ret (v := .agg #[.slice A xs.length c, vi s.least]) (by simp [results, Try.results19, go_sem, z0, z1]) rfl ⟨⟨xs, A, c, s.least⟩, rfl, HF.out.2.1, HF.out.1, HF.out.2.2.1⟩
end

section
open Go.RowKit Go.Shelf Go.Deep
set_option maxHeartbeats 1000000 in
theorem refLeast_any (b : Bd) (w : World) : Calls Try.prog 79 #[bdV b] w fun e w' => e = .returned (rlV (endR false b)) /\ newer w w' := by
 have hnw : newer w ((w.alloc (.cells (bdC b) 69)).alloc (.cells #[vi b.fr.lo, vi b.co.lo, vi b.wa.hi] 125)) := newer_trans (newer_allocH _ _) (newer_allocH _ _)
 have hxb := (Whole.made w 69 (bdC b)).alloc (.cells #[vi 0, vi 0, vi 0] 125)
 have hrb := Whole.made (w.alloc (.cells (bdC b) 69)) 125 #[vi b.fr.lo, vi b.co.lo, vi b.wa.hi]
 rw [World.size_alloc] at hrb
 have H0 := Lib.hid (And.intro hnw hrb)
 have x2 := hxb.at 2 (v := vi b.fr.lo) rfl
 have x4 := hxb.at 4 (v := vi b.co.lo) rfl
 have x7 := hxb.at 7 (v := vi b.wa.hi) rfl
 clear hnw hxb hrb
 go_enter Try.func79, Try.ntmps79
 go_wp2_with fail
 have z0 := H0.out.2.at 0 (v := vi b.fr.lo) rfl
 have z1 := H0.out.2.at 1 (v := vi b.co.lo) rfl
 have z2 := H0.out.2.at 2 (v := vi b.wa.hi) rfl
 exact bodyPost_ret (v := .agg #[vi b.fr.lo, vi b.co.lo, vi b.wa.hi]) (by simp [results, Try.results79, go_sem, z0, z1, z2]) rfl ⟨rfl, H0.out.1⟩
set_option maxHeartbeats 1000000 in
theorem refMost_any (b : Bd) (w : World) : Calls Try.prog 78 #[bdV b] w fun e w' => e = .returned (rlV (endR true b)) /\ newer w w' := by
 have hnw : newer w ((w.alloc (.cells (bdC b) 69)).alloc (.cells #[vi b.fr.hi, vi b.co.hi, vi b.wa.lo] 125)) := newer_trans (newer_allocH _ _) (newer_allocH _ _)
 have hxb := (Whole.made w 69 (bdC b)).alloc (.cells #[vi 0, vi 0, vi 0] 125)
 have hrb := Whole.made (w.alloc (.cells (bdC b) 69)) 125 #[vi b.fr.hi, vi b.co.hi, vi b.wa.lo]
 rw [World.size_alloc] at hrb
 have H0 := Lib.hid (And.intro hnw hrb)
 have x3 := hxb.at 3 (v := vi b.fr.hi) rfl
 have x5 := hxb.at 5 (v := vi b.co.hi) rfl
 have x6 := hxb.at 6 (v := vi b.wa.lo) rfl
 clear hnw hxb hrb
 go_enter Try.func78, Try.ntmps78
 go_wp2_with fail
 have z0 := H0.out.2.at 0 (v := vi b.fr.hi) rfl
 have z1 := H0.out.2.at 1 (v := vi b.co.hi) rfl
 have z2 := H0.out.2.at 2 (v := vi b.wa.lo) rfl
 exact bodyPost_ret (v := .agg #[vi b.fr.hi, vi b.co.hi, vi b.wa.lo]) (by simp [results, Try.results78, go_sem, z0, z1, z2]) rfl ⟨rfl, H0.out.1⟩
set_option maxHeartbeats 1000000 in
theorem refHolds_any (b : Bd) (x : Rl) (w : World) (hn : 0 <= b.normal /\ b.normal <= 100000) (h1 : 0 <= x.fr /\ x.fr <= 2000) (h2 : 0 <= x.co /\ x.co <= 100000) (h3 : 0 <= x.wa /\ x.wa <= 100000) :
  Calls Try.prog 80 #[bdV b, rlV x] w fun e w' => e = .returned (vi (holdsN b x)) /\ newer w w' := by
 have hp := holds_bd (b := b) (x := x) hn h1 h2 h3.1
 obtain ⟨drive, normal, fr, co, wa⟩ := b
 obtain ⟨xf, xc, xw⟩ := x
 unfold holdsN at hp ⊢
 dsimp only at hn h1 h2 h3 hp ⊢
 have HN := Lib.hid (newer_trans (newer_allocH w (.cells #[vi drive, vi normal, vi fr.lo, vi fr.hi, vi co.lo, vi co.hi, vi wa.lo, vi wa.hi] 69)) (newer_allocH (w.alloc (.cells #[vi drive, vi normal, vi fr.lo, vi fr.hi, vi co.lo, vi co.hi, vi wa.lo, vi wa.hi] 69)) (.cells #[vi xf, vi xc, vi xw] 125)))
 by_cases hd : 0 < normal - xw
 ·have e : mxI 0 (normal - xw) = normal - xw := by unfold mxI; rw [if_pos hd]
  rw [e] at hp ⊢
  have hd2 : ¬ (normal - xw < 0) := by omega
  clear e
  go_enter Try.func80, Try.ntmps80
  go_wp2_with fail
  all_goals first
   | (exfalso; omega)
   | (go_ret; exact ⟨rfl, HN.out⟩)
 ·have e : mxI 0 (normal - xw) = 0 := by unfold mxI; rw [if_neg hd]
  rw [e] at hp ⊢
  simp only [Int.zero_mul, Int.zero_ediv, Int.zero_add] at hp ⊢
  clear e
  by_cases hd2 : normal - xw < 0
  ·go_enter Try.func80, Try.ntmps80
   go_wp2_with fail
   all_goals first
    | (exfalso; omega)
    | (go_ret; exact ⟨rfl, HN.out⟩)
  ·have hz : normal - xw = 0 := by omega
   have hz2 : (normal - xw) * xf = 0 := by rw [hz, Int.zero_mul]
   go_enter Try.func80, Try.ntmps80
   go_wp2_with fail
   all_goals first
    | (exfalso; omega)
    | (go_ret; exact ⟨rfl, HN.out⟩)
end

section
open Go.RowKit Go.Shelf Go.Deep
def zeroX : Array Value := #[vi 0, vi 0, vi 0, vi 0, vi 0, vi 0, vi 0, vi 0]
theorem put8 {W : World} {g : Nat} {t : TypeId} (h : Whole W g t zeroX) (bd : Bd) : Whole ((((((((W.setCell ⟨g, 0, none⟩ (vi bd.drive)).setCell ⟨g, 1, none⟩ (vi bd.normal)).setCell ⟨g, 2, none⟩ (vi bd.fr.lo)).setCell ⟨g, 3, none⟩ (vi bd.fr.hi)).setCell ⟨g, 4, none⟩ (vi bd.co.lo)).setCell ⟨g, 5, none⟩ (vi bd.co.hi)).setCell ⟨g, 6, none⟩ (vi bd.wa.lo)).setCell ⟨g, 7, none⟩ (vi bd.wa.hi)) g t (bdC bd) := by
 have h8 := ((((((((h.set 0 (vi bd.drive)).set 1 (vi bd.normal)).set 2 (vi bd.fr.lo)).set 3 (vi bd.fr.hi)).set 4 (vi bd.co.lo)).set 5 (vi bd.co.hi)).set 6 (vi bd.wa.lo)).set 7 (vi bd.wa.hi))
 simpa only [zeroX, List.setIfInBounds_toArray, List.set_cons_zero, List.set_cons_succ] using h8
theorem put8_grown (W : World) (g : Nat) (bd : Bd) : W.grownBy ((((((((W.setCell ⟨g, 0, none⟩ (vi bd.drive)).setCell ⟨g, 1, none⟩ (vi bd.normal)).setCell ⟨g, 2, none⟩ (vi bd.fr.lo)).setCell ⟨g, 3, none⟩ (vi bd.fr.hi)).setCell ⟨g, 4, none⟩ (vi bd.co.lo)).setCell ⟨g, 5, none⟩ (vi bd.co.hi)).setCell ⟨g, 6, none⟩ (vi bd.wa.lo)).setCell ⟨g, 7, none⟩ (vi bd.wa.hi)) (some g) := grown_set (p := ⟨g, 7, none⟩) (grown_set (p := ⟨g, 6, none⟩) (grown_set (p := ⟨g, 5, none⟩) (grown_set (p := ⟨g, 4, none⟩) (grown_set (p := ⟨g, 3, none⟩) (grown_set (p := ⟨g, 2, none⟩) (grown_set (p := ⟨g, 1, none⟩) (grown_set (p := ⟨g, 0, none⟩) (grown_refl W _) (.inl rfl) _) (.inl rfl) _) (.inl rfl) _) (.inl rfl) _) (.inl rfl) _) (.inl rfl) _) (.inl rfl) _) (.inl rfl) _
theorem info_rl : (Try.prog.info? 125).map (fun i => (i.zero, i.size, i.bytes)) = some (some (.agg #[vi 0, vi 0, vi 0]), 3, 24) := by kernel_rfl
set_option maxRecDepth 100000 in
set_option maxHeartbeats 2000000 in
theorem ends_any (s : Sm) (u : Su) (k0 : Nat) (l : List Nat) (hi : Bool) (w : World) (hok : SmOk s w) (hs : SdOk s.sd) (hu : SuOk u w) (hf : u.frm = k0) (hl : u.beds = l.map fun x : Nat => (x : Int)) (hsf : SurfB s.sd.n s.cs.length s.sd.K k0 l) :
  Calls Try.prog 45 #[smV s, suV u, .bool hi] w fun e w' => ∃ A c, e = .returned (.slice A l.length c) /\ w'.ownsRow w.heap.size 125 3 (.slice A l.length c) l.length (((bedsL s.sd.cols k0 l).map (endR hi)).flatMap rlL) /\ newer w w' := by
 have hcl : s.cs.length <= 12 := by have h1 := hs.cols; rw [sd_len] at h1; omega
 have hul : u.beds.length = l.length := by rw [hl]; simp
 have hll : 1 <= l.length := by have h1 := hsf.1; have h2 := (hd_ok hs false).K0; omega
 obtain ⟨y0, hy0⟩ := get_of_lt (l := s.cs) (k := 0) (by have := hsf.2.1; omega)
 obtain ⟨b1, o1, ea, _, _⟩ := rowC hok.cs hy0
 obtain ⟨b2, o2, eu, _⟩ := row1k hu (k := 0) (by omega)
 have hnw : newer w ((w.alloc (.cells (smC s) 24)).alloc (.cells (suC u) 27)) := newer_trans (newer_allocH _ _) (newer_allocH _ _)
 have hxb := (Whole.made w 24 (smC s)).alloc (.cells (suC u) 27)
 have hub := Whole.made (w.alloc (.cells (smC s) 24)) 27 (suC u)
 rw [World.size_alloc] at hub
 have H0 := Lib.hid (And.intro hnw (And.intro hxb hub))
 have HEA := Lib.hid (And.intro ea eu)
 have HOK := Lib.hid hok
 have HU := Lib.hid hu
 have HSD := Lib.hid hs
 have HSF := Lib.hid (And.intro hsf (And.intro hf (And.intro hl hul)))
 have hkl : k0 + l.length <= s.cs.length := hsf.2.1
 obtain ⟨i0, hi0, hz0, hz1, hz2⟩ := info_parts info_rl
 have HI := Lib.hid (And.intro hi0 (And.intro hz0 (And.intro hz1 hz2)))
 clear hok hs hu hsf hf hl hul hnw hxb hub ea eu hy0 hi0 hz0 hz1 hz2
 go_enter Try.func45, Try.ntmps45
 go_wp2_with fail
 go_loopw [7, 8] (fun s7 s8 wr => ∃ (k : Nat) (A : Option Addr) (c : Nat), s8 = vi k /\ k <= l.length /\ s7 = .slice A k c /\ wr.ownsRow w.heap.size 125 3 (.slice A k c) k ((((bedsL s.sd.cols k0 l).map (endR hi)).take k).flatMap rlL) /\ newer w wr /\ Whole wr w.heap.size 24 (smC s) /\ Whole wr (w.heap.size + 1) 27 (suC u)) (fun _ s8 _ => l.length - (intOf s8).toNat)
 case atStart => exact ⟨0, none, 0, rfl, Nat.zero_le _, rfl, ⟨rfl, .inl ⟨rfl, rfl⟩⟩, H0.out.1, H0.out.2.1, H0.out.2.2⟩
 case round =>
  obtain ⟨k, A, c, rfl, hk, rfl, hown, hn, hx, hu2⟩ := hrel
  clear H0
  have HJ := Lib.hid (And.intro hown (And.intro hn (And.intro hx hu2)))
  have u1 := hu2.at 1 (v := .slice u.a u.beds.length u.c) rfl
  rw [HEA.out.2, HSF.out.2.2.2] at u1
  by_cases hlt : k < l.length
  ·obtain ⟨b, hb⟩ := get_of_lt hlt
   have hbn := way_lt l k b HSF.out.1.2.2 hb
   obtain ⟨kk, hkk0⟩ : ∃ kk, kk = k0 + k := ⟨_, rfl⟩
   obtain ⟨x, hx1, hx2, hx3, hx4⟩ := bdAt_is HSD.out (k := kk) (j := b) (by omega) hbn
   obtain ⟨bd, hbd⟩ : ∃ bd, bd = bdAt s.sd.cols kk b := ⟨_, rfl⟩
   rw [<- hbd] at hx2 hx4
   have HG := Lib.hid (And.intro (show (bedsL s.sd.cols k0 l)[k]? = some bd by rw [hbd, hkk0]; exact bedsL_get _ l k0 k b hb) hx4)
   obtain ⟨b3, o3, e3, _, cx⟩ := rowC (HOK.out.next hn).cs hx1
   rw [HEA.out.1] at e3
   obtain ⟨rfl, rfl⟩ : b1 = b3 /\ o1 = o3 := by simpa using e3
   obtain ⟨b4, o4, e4, _, d0, d1, d2, d3, d4, d5, d6, d7⟩ := row8 ((HOK.out.next hn).bd x (List.mem_of_getElem? hx1)) hx2
   rw [e4] at cx
   obtain ⟨b5, o5, e5, p0⟩ := row1k (HU.out.next hn) (k := k) (by rw [HSF.out.2.2.2]; exact hlt)
   rw [HEA.out.2] at e5
   obtain ⟨rfl, rfl⟩ : b2 = b5 /\ o2 = o5 := by simpa using e5
   have ep : iAt u.beds k = (b : Int) := by rw [HSF.out.2.2.1]; simp [iAt, hb]
   rw [ep] at p0
   have x0 := hx.at 0 (v := .slice s.a s.cs.length s.c) rfl
   rw [HEA.out.1] at x0
   have u0 := hu2.at 0 (v := vi u.frm) rfl
   rw [HSF.out.2.1] at u0
   have u1 := hu2.at 1 (v := .slice u.a u.beds.length u.c) rfl
   rw [HEA.out.2, HSF.out.2.2.2] at u1
   have hkc : (kk : Int) < s.cs.length := by omega
   have hbx : (b : Int) < x.beds.length := by omega
   have hki : (k : Int) < l.length := by omega
   have hk12 : k <= 12 := by omega
   have c22 : IntKind.i64.wrap ((k0 : Int) + (k : Int)) = (kk : Int) := by rw [show (k0 : Int) + k = kk by omega]; exact IntWalk.i64_in _ (by omega)
   clear hkk0 hx1 hx2 hx3 hx4 hbd e3 e4 e5 ep hbn hb
   clear hown hn hx hu2
   go_upto_region 5 with fail
   refine wp_words (by kernel_rfl) (region_told 16 (by kernel_rfl) (by kernel_rfl) (fun W => Below wr.heap.size wr W) newer (pickD [vIs (.pointer (some ⟨w.heap.size, 0, none⟩)), vIs (.slice (some ⟨b1, o1, none⟩) s.cs.length s.c), vIs (.pointer (some ⟨(w.heap.size + 1), 0, none⟩)), vIs (.int .i64 k0), vIs (.int .i64 k), vIs (.int .i64 kk), vIs (.pointer (some ⟨b1, o1 + kk, none⟩)), vIs (.slice (some ⟨b4, o4, none⟩) x.beds.length x.cp), vIs (.pointer (some ⟨(w.heap.size + 1), 1, none⟩)), vIs (.slice (some ⟨b2, o2, none⟩) l.length u.c), vIs (.int .i64 k), vIs (.pointer (some ⟨b2, o2 + k, none⟩)), vIs (.int .i64 b), vIs (.pointer (some ⟨b4, o4 + b * 8, none⟩)), vIs (bdV bd), vNew wr.heap.size 69 zeroX]) (fun h k => newer_trans h k) (pickD_stable _ ⟨vIs_st, vIs_st, vIs_st, vIs_st, vIs_st, vIs_st, vIs_st, vIs_st, vIs_st, vIs_st, vIs_st, vIs_st, vIs_st, vIs_st, vIs_st, vNew_st, trivial⟩) (Below.refl _ wr).drew (Below.refl _ _) ?_ ?_)
   ·refine ⟨?_, ?_, ?_, ?_, ?_, ?_, ?_, ?_, ?_, ?_, ?_, ?_, ?_, ?_, ?_, ?_, trivial⟩
    ·intro a W hG hR hO hp; have h3 := hO.slot 3 (by kernel_rfl); refine kY (v := .pointer (some ⟨w.heap.size, 0, none⟩)) hG rfl ?_; simp [slotOf] at h3; simp [execOp, go_sem, h3]
    ·intro a W hG hR hO hp; have h17 : slotOf a 17 = .pointer (some ⟨w.heap.size, 0, none⟩) := hp.1; have c0 := keep_cell x0 hG; refine kY (v := .slice (some ⟨b1, o1, none⟩) s.cs.length s.c) hG rfl ?_; simp [slotOf] at h17; simp [execOp, go_sem, h17, c0]
    ·intro a W hG hR hO hp; have h4 := hO.slot 4 (by kernel_rfl); refine kY (v := .pointer (some ⟨(w.heap.size + 1), 0, none⟩)) hG rfl ?_; simp [slotOf] at h4; simp [execOp, go_sem, h4]
    ·intro a W hG hR hO hp; have h19 : slotOf a 19 = .pointer (some ⟨(w.heap.size + 1), 0, none⟩) := hp.1; have c0 := keep_cell u0 hG; refine kY (v := .int .i64 k0) hG rfl ?_; simp [slotOf] at h19; simp [execOp, go_sem, h19, c0]
    ·exact fun a W hG _ hO _ => kM 8 rfl (hO.slot 8 (by kernel_rfl)) rfl hG
    ·intro a W hG hR hO hp; have h20 : slotOf a 20 = .int .i64 k0 := hp.1; have h21 : slotOf a 21 = .int .i64 k := hp.2.1; refine kY (v := .int .i64 kk) hG rfl ?_; simp [slotOf] at h20 h21; simp [execOp, go_sem, h20, h21, c22]
    ·intro a W hG hR hO hp; have h18 : slotOf a 18 = .slice (some ⟨b1, o1, none⟩) s.cs.length s.c := hp.1; have h22 : slotOf a 22 = .int .i64 kk := hp.2.1; refine kY (v := .pointer (some ⟨b1, o1 + kk, none⟩)) hG rfl ?_; simp [slotOf] at h18 h22; simp [execOp, go_sem, h18, h22, hkc]
    ·intro a W hG hR hO hp; have h23 : slotOf a 23 = .pointer (some ⟨b1, o1 + kk, none⟩) := hp.1; have c0 := keep_cell cx hG; refine kY (v := .slice (some ⟨b4, o4, none⟩) x.beds.length x.cp) hG rfl ?_; simp [slotOf] at h23; simp [execOp, go_sem, h23, c0]
    ·intro a W hG hR hO hp; have h4 := hO.slot 4 (by kernel_rfl); refine kY (v := .pointer (some ⟨(w.heap.size + 1), 1, none⟩)) hG rfl ?_; simp [slotOf] at h4; simp [execOp, go_sem, h4]
    ·intro a W hG hR hO hp; have h25 : slotOf a 25 = .pointer (some ⟨(w.heap.size + 1), 1, none⟩) := hp.1; have c0 := keep_cell u1 hG; refine kY (v := .slice (some ⟨b2, o2, none⟩) l.length u.c) hG rfl ?_; simp [slotOf] at h25; simp [execOp, go_sem, h25, c0]
    ·exact fun a W hG _ hO _ => kM 8 rfl (hO.slot 8 (by kernel_rfl)) rfl hG
    ·intro a W hG hR hO hp; have h26 : slotOf a 26 = .slice (some ⟨b2, o2, none⟩) l.length u.c := hp.1; have h27 : slotOf a 27 = .int .i64 k := hp.2.1; refine kY (v := .pointer (some ⟨b2, o2 + k, none⟩)) hG rfl ?_; simp [slotOf] at h26 h27; simp [execOp, go_sem, h26, h27, hki]
    ·intro a W hG hR hO hp; have h28 : slotOf a 28 = .pointer (some ⟨b2, o2 + k, none⟩) := hp.1; have c0 := keep_cell p0 hG; refine kY (v := .int .i64 b) hG rfl ?_; simp [slotOf] at h28; simp [execOp, go_sem, h28, c0]
    ·intro a W hG hR hO hp; have h24 : slotOf a 24 = .slice (some ⟨b4, o4, none⟩) x.beds.length x.cp := hp.1; have h29 : slotOf a 29 = .int .i64 b := hp.2.1; refine kY (v := .pointer (some ⟨b4, o4 + b * 8, none⟩)) hG rfl ?_; simp [slotOf] at h24 h29; simp [execOp, go_sem, h24, h29, hbx]
    ·intro a W hG hR hO hp; have h30 : slotOf a 30 = .pointer (some ⟨b4, o4 + b * 8, none⟩) := hp.1; have c0 := keep_cell d0 hG; have c1 := keep_cell d1 hG; have c2 := keep_cell d2 hG; have c3 := keep_cell d3 hG; have c4 := keep_cell d4 hG; have c5 := keep_cell d5 hG; have c6 := keep_cell d6 hG; have c7 := keep_cell d7 hG; refine kY (v := bdV bd) hG rfl ?_; simp [slotOf] at h30; simp [execOp, go_sem, h30, c0, c1, c2, c3, c4, c5, c6, c7]
    ·intro a W hG hR hO hp; refine wp_makes (v := .pointer (some ⟨W.heap.size, 0, none⟩)) (W' := W.alloc (.cells zeroX 69)) ?_ ⟨_, rfl, ⟨_, rfl, hG.size, Whole.made _ _ _⟩, newer_allocH _ _, below_next hG (newer_allocH _ _)⟩; skip; simp [execOp, go_sem, zeroX]
   ·intro wz hG hR
    rintro _ rfl _ rfl _ rfl _ rfl _ rfl _ rfl _ rfl _ rfl _ rfl _ rfl _ rfl _ rfl _ rfl _ rfl _ rfl _ ⟨g, rfl, hg, hW⟩
    change wpList _ _ _ _ _ _
    simp only [Act.put, List.setIfInBounds_toArray, List.set_cons_zero, List.set_cons_succ, List.drop_succ_cons, List.drop_zero]
    have hbox := (put8 hW bd)
    have hgr := (put8_grown wz g bd)
    have HB5 : Hid (newer wr ((((((((wz.setCell ⟨g, 0, none⟩ (vi bd.drive)).setCell ⟨g, 1, none⟩ (vi bd.normal)).setCell ⟨g, 2, none⟩ (vi bd.fr.lo)).setCell ⟨g, 3, none⟩ (vi bd.fr.hi)).setCell ⟨g, 4, none⟩ (vi bd.co.lo)).setCell ⟨g, 5, none⟩ (vi bd.co.hi)).setCell ⟨g, 6, none⟩ (vi bd.wa.lo)).setCell ⟨g, 7, none⟩ (vi bd.wa.hi)) /\ Whole ((((((((wz.setCell ⟨g, 0, none⟩ (vi bd.drive)).setCell ⟨g, 1, none⟩ (vi bd.normal)).setCell ⟨g, 2, none⟩ (vi bd.fr.lo)).setCell ⟨g, 3, none⟩ (vi bd.fr.hi)).setCell ⟨g, 4, none⟩ (vi bd.co.lo)).setCell ⟨g, 5, none⟩ (vi bd.co.hi)).setCell ⟨g, 6, none⟩ (vi bd.wa.lo)).setCell ⟨g, 7, none⟩ (vi bd.wa.hi)) g 69 (bdC bd)) := Lib.hid ⟨Below.trans hG (below_of_grown hgr hg hG.size), hbox⟩
    have e0 := hW.at 0 (v := vi 0) rfl
    have e1 := hW.at 1 (v := vi 0) rfl
    have e2 := hW.at 2 (v := vi 0) rfl
    have e3 := hW.at 3 (v := vi 0) rfl
    have e4 := hW.at 4 (v := vi 0) rfl
    have e5 := hW.at 5 (v := vi 0) rfl
    have e6 := hW.at 6 (v := vi 0) rfl
    have e7 := hW.at 7 (v := vi 0) rfl
    have f0 := hW.free 0
    have f1 := hW.free 1
    have f2 := hW.free 2
    have f3 := hW.free 3
    have f4 := hW.free 4
    have f5 := hW.free 5
    have f6 := hW.free 6
    have f7 := hW.free 7
    clear hbox hgr hG hR hW x0 u0 u1 cx p0 d0 d1 d2 d3 d4 d5 d6 d7 c22
    go_upto_region 6 with fail
    refine genQ (fun X => newer wr X /\ Whole X g 69 (bdC bd)) HB5.out ?_
    clear HB5 e0 e1 e2 e3 e4 e5 e6 e7 f0 f1 f2 f3 f4 f5 f6 f7 wz
    rintro w6 ⟨q1, q2⟩
    have z0 := q2.at 0 (v := vi bd.drive) rfl
    have z1 := q2.at 1 (v := vi bd.normal) rfl
    have z2 := q2.at 2 (v := vi bd.fr.lo) rfl
    have z3 := q2.at 3 (v := vi bd.fr.hi) rfl
    have z4 := q2.at 4 (v := vi bd.co.lo) rfl
    have z5 := q2.at 5 (v := vi bd.co.hi) rfl
    have z6 := q2.at 6 (v := vi bd.wa.lo) rfl
    have z7 := q2.at 7 (v := vi bd.wa.hi) rfl
    have H6 := Lib.hid (And.intro (own_below HJ.out.1 q1) (And.intro (newer_trans HJ.out.2.1 q1) (And.intro (HJ.out.2.2.1.below q1 HJ.out.2.2.1.lt) (HJ.out.2.2.2.below q1 HJ.out.2.2.2.lt))))
    have HGE := Lib.hid (show ((bedsL s.sd.cols k0 l).map (endR hi))[k]? = some (endR hi bd) by rw [List.getElem?_map, HG.out.1]; rfl)
    clear q1 q2 HJ
    cases hi with
    | false =>
     go_wp2_with fail
     refine (refLeast_any bd _).mono ?_
     rintro e w7 ⟨rfl, hb⟩
     obtain ⟨y, hy⟩ : ∃ y, y = endR false bd := ⟨_, rfl⟩
     rw [<- hy] at HGE ⊢
     clear hy
     have hn8 := newer_allocH w7 (.cells (rlC y) 125)
     have hn9 := newer_trans hb hn8
     have H7 := Lib.hid (And.intro (own_below H6.out.1 hn9) (And.intro (newer_trans H6.out.2.1 hn9) (And.intro (H6.out.2.2.1.below hn9 H6.out.2.2.1.lt) (H6.out.2.2.2.below hn9 H6.out.2.2.2.lt))))
     have HWN := Lib.hid (World.news_of_block (Whole.made w7 125 (rlC y)))
     clear hb hn8 hn9 H6 z0 z1 z2 z3 z4 z5 z6 z7
     go_wp2_with (at_builtin; go_loud ((refine wpList_append_lies _ rfl (.tmp 38) (.tmp 41) 80 rfl w.heap.size 125 i0 (.agg #[vi 0, vi 0, vi 0]) 3 24 Try.underlying80 HI.out.1 HI.out.2.1 HI.out.2.2.1 HI.out.2.2.2 rfl (by omega) _ k _ rfl H7.out.1 ⟨w7.heap.size, 0, none⟩ 1 1 (rlL y) rfl rfl HWN.out (by simp [Value.oneCell']) (by omega) (by unfold maxLen; omega) (by omega) H7.out.2.1.size (w7.alloc (.cells (rlC y) 125)).heap.size rfl ?_); intro gg cp2 w2 hown2 hgrow2 hat2 hlt2; rw [<- take_flat rlL _ k y HGE.out] at hown2; have HE := Lib.hid (And.intro hown2 (And.intro hgrow2 (own_ge H7.out.1))); clear hown2 hgrow2 hat2 hlt2))
     refine ⟨⟨k + 1, some ⟨gg, 0, none⟩, cp2, rfl, by omega, rfl, HE.out.1, ?_, ?_, ?_⟩, ?_⟩
     ·exact below_grown (grown_trans' (grown_of_newer H7.out.2.1 _) HE.out.2.1) HE.out.2.2 (Nat.le_refl _)
     ·exact H7.out.2.2.1.grown HE.out.2.1 (fun e => own_ne H7.out.1 H7.out.2.2.1 (by decide) e.symm)
     ·exact H7.out.2.2.2.grown HE.out.2.1 (fun e => own_ne H7.out.1 H7.out.2.2.2 (by decide) e.symm)
     ·simp [intOf]
      omega
    | true =>
     go_wp2_with fail
     refine (refMost_any bd _).mono ?_
     rintro e w7 ⟨rfl, hb⟩
     obtain ⟨y, hy⟩ : ∃ y, y = endR true bd := ⟨_, rfl⟩
     rw [<- hy] at HGE ⊢
     clear hy
     have hn8 := newer_allocH w7 (.cells (rlC y) 125)
     have hn9 := newer_trans hb hn8
     have H7 := Lib.hid (And.intro (own_below H6.out.1 hn9) (And.intro (newer_trans H6.out.2.1 hn9) (And.intro (H6.out.2.2.1.below hn9 H6.out.2.2.1.lt) (H6.out.2.2.2.below hn9 H6.out.2.2.2.lt))))
     have HWN := Lib.hid (World.news_of_block (Whole.made w7 125 (rlC y)))
     clear hb hn8 hn9 H6 z0 z1 z2 z3 z4 z5 z6 z7
     go_wp2_with (at_builtin; go_loud ((refine wpList_append_lies _ rfl (.tmp 33) (.tmp 36) 80 rfl w.heap.size 125 i0 (.agg #[vi 0, vi 0, vi 0]) 3 24 Try.underlying80 HI.out.1 HI.out.2.1 HI.out.2.2.1 HI.out.2.2.2 rfl (by omega) _ k _ rfl H7.out.1 ⟨w7.heap.size, 0, none⟩ 1 1 (rlL y) rfl rfl HWN.out (by simp [Value.oneCell']) (by omega) (by unfold maxLen; omega) (by omega) H7.out.2.1.size (w7.alloc (.cells (rlC y) 125)).heap.size rfl ?_); intro gg cp2 w2 hown2 hgrow2 hat2 hlt2; rw [<- take_flat rlL _ k y HGE.out] at hown2; have HE := Lib.hid (And.intro hown2 (And.intro hgrow2 (own_ge H7.out.1))); clear hown2 hgrow2 hat2 hlt2))
     refine ⟨⟨k + 1, some ⟨gg, 0, none⟩, cp2, rfl, by omega, rfl, HE.out.1, ?_, ?_, ?_⟩, ?_⟩
     ·exact below_grown (grown_trans' (grown_of_newer H7.out.2.1 _) HE.out.2.1) HE.out.2.2 (Nat.le_refl _)
     ·exact H7.out.2.2.1.grown HE.out.2.1 (fun e => own_ne H7.out.1 H7.out.2.2.1 (by decide) e.symm)
     ·exact H7.out.2.2.2.grown HE.out.2.1 (fun e => own_ne H7.out.1 H7.out.2.2.2 (by decide) e.symm)
     ·simp [intOf]
      omega
  ·obtain rfl : k = l.length := by omega
   have HE := Lib.hid (show wr.ownsRow w.heap.size 125 3 (.slice A l.length c) l.length (((bedsL s.sd.cols k0 l).map (endR hi)).flatMap rlL) by
    have h1 := HJ.out.1
    rw [List.take_of_length_le (by rw [List.length_map, bedsL_len]; omega)] at h1
    exact h1)
   clear hown hx hu2
   go_wp2_with fail
   go_ret
   exact ⟨A, c, rfl, HE.out, hn⟩
end

section
open Go.RowKit Go.Shelf Go.Deep
set_option maxRecDepth 100000 in
set_option maxHeartbeats 2000000 in
theorem refFactor_any (s : Sm) (u : Su) (k0 : Nat) (l : List Nat) (tl : List Rl) (A : Option Addr) (ct : Nat) (w : World) (hok : SmOk s w) (hs : SdOk s.sd) (hu : SuOk u w) (hf : u.frm = k0) (hl : u.beds = l.map fun x : Nat => (x : Int)) (hsf : SurfB s.sd.n s.cs.length s.sd.K k0 l)
  (htr : Row rlL 3 w w.heap.size A tl) (htl : tl.length = l.length) (htb : ∀ y ∈ tl, rlB y = true) :
  Calls Try.prog 48 #[smV s, suV u, .slice A tl.length ct] w fun e w' => e = .returned (vi (refF (hK (bedsL s.sd.cols k0 l) (fun i => tl.getD i ⟨0, 0, 0⟩) l.length) (dK (bedsL s.sd.cols k0 l) l.length))) /\ newer w w' := by
 have hcl : s.cs.length <= 12 := by have h1 := hs.cols; rw [sd_len] at h1; omega
 have hul : u.beds.length = l.length := by rw [hl]; simp
 have hll : 1 <= l.length := by have h1 := hsf.1; have h2 := (hd_ok hs false).K0; omega
 obtain ⟨y0, hy0⟩ := get_of_lt (l := s.cs) (k := 0) (by have := hsf.2.1; omega)
 obtain ⟨b1, o1, ea, _, _⟩ := rowC hok.cs hy0
 obtain ⟨b2, o2, eu, _⟩ := row1k hu (k := 0) (by omega)
 have hnw : newer w ((w.alloc (.cells (smC s) 24)).alloc (.cells (suC u) 27)) := newer_trans (newer_allocH _ _) (newer_allocH _ _)
 have hxb := (Whole.made w 24 (smC s)).alloc (.cells (suC u) 27)
 have hub := Whole.made (w.alloc (.cells (smC s) 24)) 27 (suC u)
 rw [World.size_alloc] at hub
 have H0 := Lib.hid (And.intro hnw (And.intro hxb hub))
 have HEA := Lib.hid (And.intro ea eu)
 have HOK := Lib.hid hok
 have HU := Lib.hid hu
 have HSD := Lib.hid hs
 have HSF := Lib.hid (And.intro hsf (And.intro hf (And.intro hl hul)))
 have hkl : k0 + l.length <= s.cs.length := hsf.2.1
 obtain ⟨y1, hy1⟩ := get_of_lt (l := tl) (k := 0) (by omega)
 obtain ⟨bt, ot, et, _, _⟩ := row3 htr hy1
 subst et
 have HTR := Lib.hid htr
 have HTB := Lib.hid (And.intro htb htl)
 have HBO := Lib.hid (bedsL_ok hs hsf.2.2 hsf.2.1)
 obtain ⟨bs, hbs⟩ : ∃ bs, bs = bedsL s.sd.cols k0 l := ⟨_, rfl⟩
 have hbl : bs.length = l.length := by rw [hbs]; exact bedsL_len _ _ _
 have HBS := Lib.hid hbs
 rw [<- hbs] at HBO ⊢
 obtain ⟨tr, htr2⟩ : ∃ tr : Nat -> Rl, tr = fun i => tl.getD i ⟨0, 0, 0⟩ := ⟨_, rfl⟩
 have HTT := Lib.hid htr2
 rw [<- htr2]
 obtain ⟨H, hH⟩ : ∃ H, H = hK bs tr l.length := ⟨_, rfl⟩
 obtain ⟨D, hD⟩ : ∃ D, D = dK bs l.length := ⟨_, rfl⟩
 rw [<- hH, <- hD]
 have HHD := Lib.hid (And.intro hH hD)
 have HTRB : Hid (∀ i, i < l.length -> rlB (tr i) = true) := Lib.hid (fun i hi => by
  obtain ⟨y, hy⟩ := get_of_lt (l := tl) (k := i) (by omega)
  rw [htr2]
  have e : tl.getD i ⟨0, 0, 0⟩ = y := by simp [List.getD, hy]
  show rlB (tl.getD i ⟨0, 0, 0⟩) = true
  rw [e]
  exact htb y (List.mem_of_getElem? hy))
 clear hok hs hu hsf hf hl hul hnw hxb hub ea eu hy0 hy1 htr htb hbs htr2 hH hD
 go_enter Try.func48, Try.ntmps48
 go_wp2_with fail
 go_loopw [7, 8, 9] (fun s7 s8 s9 wr => ∃ k : Nat, s9 = vi k /\ k <= l.length /\ s7 = vi (hK bs tr k) /\ s8 = vi (dK bs k) /\ newer w wr /\ Whole wr w.heap.size 24 (smC s) /\ Whole wr (w.heap.size + 1) 27 (suC u)) (fun _ _ s9 _ => l.length - (intOf s9).toNat)
 case atStart => exact ⟨0, rfl, Nat.zero_le _, rfl, rfl, H0.out.1, H0.out.2.1, H0.out.2.2⟩
 case round =>
  obtain ⟨k, rfl, hk, rfl, rfl, hn, hx, hu2⟩ := hrel
  clear H0
  have HJ := Lib.hid (And.intro hn (And.intro hx hu2))
  have u1 := hu2.at 1 (v := .slice u.a u.beds.length u.c) rfl
  rw [HEA.out.2, HSF.out.2.2.2] at u1
  have hh := hK_bd (l := bs) (tr := tr) k (by omega) HBO.out (fun i hi => HTRB.out i (by omega))
  have hd := dK_bd (l := bs) k (by omega) HBO.out
  by_cases hlt : k < l.length
  ·obtain ⟨b, hb⟩ := get_of_lt hlt
   have hbn := way_lt l k b HSF.out.1.2.2 hb
   obtain ⟨kk, hkk0⟩ : ∃ kk, kk = k0 + k := ⟨_, rfl⟩
   obtain ⟨x, hx1, hx2, hx3, hx4⟩ := bdAt_is HSD.out (k := kk) (j := b) (by omega) hbn
   obtain ⟨bd, hbd⟩ : ∃ bd, bd = bdAt s.sd.cols kk b := ⟨_, rfl⟩
   rw [<- hbd] at hx2 hx4
   have HG := Lib.hid (And.intro (show (bedsL s.sd.cols k0 l)[k]? = some bd by rw [hbd, hkk0]; exact bedsL_get _ l k0 k b hb) hx4)
   obtain ⟨b3, o3, e3, _, cx⟩ := rowC (HOK.out.next hn).cs hx1
   rw [HEA.out.1] at e3
   obtain ⟨rfl, rfl⟩ : b1 = b3 /\ o1 = o3 := by simpa using e3
   obtain ⟨b4, o4, e4, _, d0, d1, d2, d3, d4, d5, d6, d7⟩ := row8 ((HOK.out.next hn).bd x (List.mem_of_getElem? hx1)) hx2
   rw [e4] at cx
   obtain ⟨b5, o5, e5, p0⟩ := row1k (HU.out.next hn) (k := k) (by rw [HSF.out.2.2.2]; exact hlt)
   rw [HEA.out.2] at e5
   obtain ⟨rfl, rfl⟩ : b2 = b5 /\ o2 = o5 := by simpa using e5
   have ep : iAt u.beds k = (b : Int) := by rw [HSF.out.2.2.1]; simp [iAt, hb]
   rw [ep] at p0
   have x0 := hx.at 0 (v := .slice s.a s.cs.length s.c) rfl
   rw [HEA.out.1] at x0
   have u0 := hu2.at 0 (v := vi u.frm) rfl
   rw [HSF.out.2.1] at u0
   have u1 := hu2.at 1 (v := .slice u.a u.beds.length u.c) rfl
   rw [HEA.out.2, HSF.out.2.2.2] at u1
   have hkc : (kk : Int) < s.cs.length := by omega
   have hbx : (b : Int) < x.beds.length := by omega
   have hki : (k : Int) < l.length := by omega
   have hk12 : k <= 12 := by omega
   have c22 : IntKind.i64.wrap ((k0 : Int) + (k : Int)) = (kk : Int) := by rw [show (k0 : Int) + k = kk by omega]; exact IntWalk.i64_in _ (by omega)
   clear hkk0 hx1 hx2 hx3 hx4 hbd e3 e4 e5 ep hbn hb
   obtain ⟨y, hy⟩ := get_of_lt (l := tl) (k := k) (by omega)
   have hyr : tr k = y := by rw [HTT.out]; simp [List.getD, hy]
   have hyb : rlB y = true := HTB.out.1 y (List.mem_of_getElem? hy)
   have hge : bs.getD k zeroBd = bd := by simp [List.getD, HBS.out, HG.out.1]
   obtain ⟨bt2, ot2, e9, _, c0, c1, c2⟩ := row3 (HTR.out.below hn) hy
   obtain ⟨rfl, rfl⟩ : bt = bt2 /\ ot = ot2 := by simpa using e9
   have HS : Hid (hK bs tr (k + 1) = hK bs tr k + holdsN bd y /\ dK bs (k + 1) = dK bs k + bd.drive) := Lib.hid (by simp only [hK, dK, hge, hyr]; exact ⟨trivial, trivial⟩)
   obtain ⟨h, hhe⟩ : ∃ h, h = hK bs tr k := ⟨_, rfl⟩
   obtain ⟨d, hde⟩ : ∃ d, d = dK bs k := ⟨_, rfl⟩
   have hbb := bdB_parts HG.out.2
   obtain ⟨y1, y2, y3⟩ := rlB_parts hyb
   have hhb := (holds_bd (b := bd) (x := y) hbb.2.1 y1 y2 y3.1).2.2
   have HH := Lib.hid (fun W => refHolds_any bd y W hbb.2.1 y1 y2 y3)
   rw [<- hhe] at hh HS ⊢
   rw [<- hde] at hd HS ⊢
   obtain ⟨hb, hhb2⟩ : ∃ hb, hb = holdsN bd y := ⟨_, rfl⟩
   rw [<- hhb2] at HH HS hhb
   have HC : Hid (IntKind.i64.wrap (h + hb) = h + hb /\ IntKind.i64.wrap (d + bd.drive) = d + bd.drive) := Lib.hid ⟨IntWalk.i64_in _ (by omega), IntWalk.i64_in _ (by omega)⟩
   have hkt : (k : Int) < tl.length := by omega
   have HCC := Lib.hid (And.intro c0 (And.intro c1 c2))
   have hdr := hbb.1
   clear hhe hde hy hyr hyb hge y1 y2 y3 hhb2 e9 c0 c1 c2 hbb hn hx hu2 hh hhb
   go_upto_region 5 with fail
   refine wp_words (by kernel_rfl) (region_told 16 (by kernel_rfl) (by kernel_rfl) (fun W => Below wr.heap.size wr W) newer (pickD [vIs (.pointer (some ⟨w.heap.size, 0, none⟩)), vIs (.slice (some ⟨b1, o1, none⟩) s.cs.length s.c), vIs (.pointer (some ⟨(w.heap.size + 1), 0, none⟩)), vIs (.int .i64 k0), vIs (.int .i64 k), vIs (.int .i64 kk), vIs (.pointer (some ⟨b1, o1 + kk, none⟩)), vIs (.slice (some ⟨b4, o4, none⟩) x.beds.length x.cp), vIs (.pointer (some ⟨(w.heap.size + 1), 1, none⟩)), vIs (.slice (some ⟨b2, o2, none⟩) l.length u.c), vIs (.int .i64 k), vIs (.pointer (some ⟨b2, o2 + k, none⟩)), vIs (.int .i64 b), vIs (.pointer (some ⟨b4, o4 + b * 8, none⟩)), vIs (bdV bd), vNew wr.heap.size 69 zeroX]) (fun h k => newer_trans h k) (pickD_stable _ ⟨vIs_st, vIs_st, vIs_st, vIs_st, vIs_st, vIs_st, vIs_st, vIs_st, vIs_st, vIs_st, vIs_st, vIs_st, vIs_st, vIs_st, vIs_st, vNew_st, trivial⟩) (Below.refl _ wr).drew (Below.refl _ _) ?_ ?_)
   ·refine ⟨?_, ?_, ?_, ?_, ?_, ?_, ?_, ?_, ?_, ?_, ?_, ?_, ?_, ?_, ?_, ?_, trivial⟩
    ·intro a W hG hR hO hp; have h3 := hO.slot 3 (by kernel_rfl); refine kY (v := .pointer (some ⟨w.heap.size, 0, none⟩)) hG rfl ?_; simp [slotOf] at h3; simp [execOp, go_sem, h3]
    ·intro a W hG hR hO hp; have h18 : slotOf a 18 = .pointer (some ⟨w.heap.size, 0, none⟩) := hp.1; have c0 := keep_cell x0 hG; refine kY (v := .slice (some ⟨b1, o1, none⟩) s.cs.length s.c) hG rfl ?_; simp [slotOf] at h18; simp [execOp, go_sem, h18, c0]
    ·intro a W hG hR hO hp; have h4 := hO.slot 4 (by kernel_rfl); refine kY (v := .pointer (some ⟨(w.heap.size + 1), 0, none⟩)) hG rfl ?_; simp [slotOf] at h4; simp [execOp, go_sem, h4]
    ·intro a W hG hR hO hp; have h20 : slotOf a 20 = .pointer (some ⟨(w.heap.size + 1), 0, none⟩) := hp.1; have c0 := keep_cell u0 hG; refine kY (v := .int .i64 k0) hG rfl ?_; simp [slotOf] at h20; simp [execOp, go_sem, h20, c0]
    ·exact fun a W hG _ hO _ => kM 9 rfl (hO.slot 9 (by kernel_rfl)) rfl hG
    ·intro a W hG hR hO hp; have h21 : slotOf a 21 = .int .i64 k0 := hp.1; have h22 : slotOf a 22 = .int .i64 k := hp.2.1; refine kY (v := .int .i64 kk) hG rfl ?_; simp [slotOf] at h21 h22; simp [execOp, go_sem, h21, h22, c22]
    ·intro a W hG hR hO hp; have h19 : slotOf a 19 = .slice (some ⟨b1, o1, none⟩) s.cs.length s.c := hp.1; have h23 : slotOf a 23 = .int .i64 kk := hp.2.1; refine kY (v := .pointer (some ⟨b1, o1 + kk, none⟩)) hG rfl ?_; simp [slotOf] at h19 h23; simp [execOp, go_sem, h19, h23, hkc]
    ·intro a W hG hR hO hp; have h24 : slotOf a 24 = .pointer (some ⟨b1, o1 + kk, none⟩) := hp.1; have c0 := keep_cell cx hG; refine kY (v := .slice (some ⟨b4, o4, none⟩) x.beds.length x.cp) hG rfl ?_; simp [slotOf] at h24; simp [execOp, go_sem, h24, c0]
    ·intro a W hG hR hO hp; have h4 := hO.slot 4 (by kernel_rfl); refine kY (v := .pointer (some ⟨(w.heap.size + 1), 1, none⟩)) hG rfl ?_; simp [slotOf] at h4; simp [execOp, go_sem, h4]
    ·intro a W hG hR hO hp; have h26 : slotOf a 26 = .pointer (some ⟨(w.heap.size + 1), 1, none⟩) := hp.1; have c0 := keep_cell u1 hG; refine kY (v := .slice (some ⟨b2, o2, none⟩) l.length u.c) hG rfl ?_; simp [slotOf] at h26; simp [execOp, go_sem, h26, c0]
    ·exact fun a W hG _ hO _ => kM 9 rfl (hO.slot 9 (by kernel_rfl)) rfl hG
    ·intro a W hG hR hO hp; have h27 : slotOf a 27 = .slice (some ⟨b2, o2, none⟩) l.length u.c := hp.1; have h28 : slotOf a 28 = .int .i64 k := hp.2.1; refine kY (v := .pointer (some ⟨b2, o2 + k, none⟩)) hG rfl ?_; simp [slotOf] at h27 h28; simp [execOp, go_sem, h27, h28, hki]
    ·intro a W hG hR hO hp; have h29 : slotOf a 29 = .pointer (some ⟨b2, o2 + k, none⟩) := hp.1; have c0 := keep_cell p0 hG; refine kY (v := .int .i64 b) hG rfl ?_; simp [slotOf] at h29; simp [execOp, go_sem, h29, c0]
    ·intro a W hG hR hO hp; have h25 : slotOf a 25 = .slice (some ⟨b4, o4, none⟩) x.beds.length x.cp := hp.1; have h30 : slotOf a 30 = .int .i64 b := hp.2.1; refine kY (v := .pointer (some ⟨b4, o4 + b * 8, none⟩)) hG rfl ?_; simp [slotOf] at h25 h30; simp [execOp, go_sem, h25, h30, hbx]
    ·intro a W hG hR hO hp; have h31 : slotOf a 31 = .pointer (some ⟨b4, o4 + b * 8, none⟩) := hp.1; have c0 := keep_cell d0 hG; have c1 := keep_cell d1 hG; have c2 := keep_cell d2 hG; have c3 := keep_cell d3 hG; have c4 := keep_cell d4 hG; have c5 := keep_cell d5 hG; have c6 := keep_cell d6 hG; have c7 := keep_cell d7 hG; refine kY (v := bdV bd) hG rfl ?_; simp [slotOf] at h31; simp [execOp, go_sem, h31, c0, c1, c2, c3, c4, c5, c6, c7]
    ·intro a W hG hR hO hp; refine wp_makes (v := .pointer (some ⟨W.heap.size, 0, none⟩)) (W' := W.alloc (.cells zeroX 69)) ?_ ⟨_, rfl, ⟨_, rfl, hG.size, Whole.made _ _ _⟩, newer_allocH _ _, below_next hG (newer_allocH _ _)⟩; skip; simp [execOp, go_sem, zeroX]
   ·intro wz hG hR
    rintro _ rfl _ rfl _ rfl _ rfl _ rfl _ rfl _ rfl _ rfl _ rfl _ rfl _ rfl _ rfl _ rfl _ rfl _ rfl _ ⟨g, rfl, hg, hW⟩
    change wpList _ _ _ _ _ _
    simp only [Act.put, List.setIfInBounds_toArray, List.set_cons_zero, List.set_cons_succ, List.drop_succ_cons, List.drop_zero]
    have hbox := (put8 hW bd)
    have hgr := (put8_grown wz g bd)
    have HB5 : Hid (newer wr ((((((((wz.setCell ⟨g, 0, none⟩ (vi bd.drive)).setCell ⟨g, 1, none⟩ (vi bd.normal)).setCell ⟨g, 2, none⟩ (vi bd.fr.lo)).setCell ⟨g, 3, none⟩ (vi bd.fr.hi)).setCell ⟨g, 4, none⟩ (vi bd.co.lo)).setCell ⟨g, 5, none⟩ (vi bd.co.hi)).setCell ⟨g, 6, none⟩ (vi bd.wa.lo)).setCell ⟨g, 7, none⟩ (vi bd.wa.hi)) /\ Whole ((((((((wz.setCell ⟨g, 0, none⟩ (vi bd.drive)).setCell ⟨g, 1, none⟩ (vi bd.normal)).setCell ⟨g, 2, none⟩ (vi bd.fr.lo)).setCell ⟨g, 3, none⟩ (vi bd.fr.hi)).setCell ⟨g, 4, none⟩ (vi bd.co.lo)).setCell ⟨g, 5, none⟩ (vi bd.co.hi)).setCell ⟨g, 6, none⟩ (vi bd.wa.lo)).setCell ⟨g, 7, none⟩ (vi bd.wa.hi)) g 69 (bdC bd)) := Lib.hid ⟨Below.trans hG (below_of_grown hgr hg hG.size), hbox⟩
    have e0 := hW.at 0 (v := vi 0) rfl
    have f0 := hW.free 0
    have e1 := hW.at 1 (v := vi 0) rfl
    have f1 := hW.free 1
    have e2 := hW.at 2 (v := vi 0) rfl
    have f2 := hW.free 2
    have e3 := hW.at 3 (v := vi 0) rfl
    have f3 := hW.free 3
    have e4 := hW.at 4 (v := vi 0) rfl
    have f4 := hW.free 4
    have e5 := hW.at 5 (v := vi 0) rfl
    have f5 := hW.free 5
    have e6 := hW.at 6 (v := vi 0) rfl
    have f6 := hW.free 6
    have e7 := hW.at 7 (v := vi 0) rfl
    have f7 := hW.free 7
    clear hbox hgr hG hR hW x0 u0 u1 cx p0 d0 d1 d2 d3 d4 d5 d6 d7 c22
    go_upto_region 6 with fail
    refine genQ (fun X => newer wr X /\ Whole X g 69 (bdC bd)) HB5.out ?_
    clear HB5 e0 e1 e2 e3 e4 e5 e6 e7 f0 f1 f2 f3 f4 f5 f6 f7 wz
    rintro w6 ⟨q1, q2⟩
    have z0 := q2.at 0 (v := vi bd.drive) rfl
    have z1 := q2.at 1 (v := vi bd.normal) rfl
    have z2 := q2.at 2 (v := vi bd.fr.lo) rfl
    have z3 := q2.at 3 (v := vi bd.fr.hi) rfl
    have z4 := q2.at 4 (v := vi bd.co.lo) rfl
    have z5 := q2.at 5 (v := vi bd.co.hi) rfl
    have z6 := q2.at 6 (v := vi bd.wa.lo) rfl
    have z7 := q2.at 7 (v := vi bd.wa.hi) rfl
    have r0 := keep_cell HCC.out.1 q1
    have r1 := keep_cell HCC.out.2.1 q1
    have r2 := keep_cell HCC.out.2.2 q1
    have H6 := Lib.hid (And.intro (newer_trans HJ.out.1 q1) (And.intro (HJ.out.2.1.below q1 HJ.out.2.1.lt) (HJ.out.2.2.below q1 HJ.out.2.2.lt)))
    clear q1 q2 HJ HCC
    refine wp_words (by kernel_rfl) (region_told 8 (by kernel_rfl) (by kernel_rfl) (fun W => Below w6.heap.size w6 W) newer (pickD [vIs (vi h), vIs (bdV bd), vIs (.slice (some ⟨bt, ot, none⟩) tl.length ct), vIs (vi k), vIs (.pointer (some ⟨bt, ot + k * 3, none⟩)), vIs (rlV y), vIs (vi hb), vIs (vi (h + hb))]) (fun h k => newer_trans h k) (pickD_stable _ ⟨vIs_st, vIs_st, vIs_st, vIs_st, vIs_st, vIs_st, vIs_st, vIs_st, trivial⟩) (Below.refl _ w6).drew (Below.refl _ _) ?_ ?_)
    ·refine ⟨?_, ?_, ?_, ?_, ?_, ?_, ?_, ?_, trivial⟩
     ·exact fun a W hG _ hO _ => kM 7 rfl (hO.slot 7 (by kernel_rfl)) rfl hG
     ·intro a W hG hR hO hp; have h10 := hO.slot 10 (by kernel_rfl); have c0 := keep_cell z0 hG; have c1 := keep_cell z1 hG; have c2 := keep_cell z2 hG; have c3 := keep_cell z3 hG; have c4 := keep_cell z4 hG; have c5 := keep_cell z5 hG; have c6 := keep_cell z6 hG; have c7 := keep_cell z7 hG; refine kY (v := bdV bd) hG rfl ?_; simp [slotOf] at h10; simp [execOp, go_sem, h10, c0, c1, c2, c3, c4, c5, c6, c7]
     ·exact fun a W hG _ hO _ => kM 2 rfl (hO.slot 2 (by kernel_rfl)) rfl hG
     ·exact fun a W hG _ hO _ => kM 9 rfl (hO.slot 9 (by kernel_rfl)) rfl hG
     ·intro a W hG hR hO hp; have h35 : slotOf a 35 = .slice (some ⟨bt, ot, none⟩) tl.length ct := hp.1; have h36 : slotOf a 36 = vi k := hp.2.1; refine kY (v := .pointer (some ⟨bt, ot + k * 3, none⟩)) hG rfl ?_; simp [slotOf] at h35 h36; simp [execOp, go_sem, h35, h36, hkt]
     ·intro a W hG hR hO hp; have h37 : slotOf a 37 = .pointer (some ⟨bt, ot + k * 3, none⟩) := hp.1; have c0 := keep_cell r0 hG; have c1 := keep_cell r1 hG; have c2 := keep_cell r2 hG; refine kY (v := rlV y) hG rfl ?_; simp [slotOf] at h37; simp [execOp, go_sem, h37, c0, c1, c2]
     ·intro a W hG hR hO hp
      have h34 : slotOf a 34 = bdV bd := hp.1
      have h38 : slotOf a 38 = rlV y := hp.2.1
      refine wp_enters (f := 80) (args := #[bdV bd, rlV y]) ?_ ((HH.out W).mono ?_)
      ·simp [slotOf] at h34 h38
       simp [go_sem, h34, h38]
      ·rintro e w' ⟨rfl, hb⟩
       exact ⟨_, rfl, _, rfl, rfl, hb, below_next hG hb⟩
     ·intro a W hG hR hO hp; have h33 : slotOf a 33 = vi h := hp.1; have h39 : slotOf a 39 = vi hb := hp.2.1; refine kY (v := vi (h + hb)) hG rfl ?_; simp [slotOf] at h33 h39; simp [execOp, go_sem, h33, h39, HC.out.1]
    ·intro wy hG hR
     rintro _ rfl _ rfl _ rfl _ rfl _ rfl _ rfl _ rfl _ rfl
     change wpList _ _ _ _ _ _
     simp only [Act.put, List.setIfInBounds_toArray, List.set_cons_zero, List.set_cons_succ, List.drop_succ_cons, List.drop_zero]
     have H7 := Lib.hid (And.intro (newer_trans H6.out.1 hG) (And.intro (H6.out.2.1.below hG H6.out.2.1.lt) (H6.out.2.2.below hG H6.out.2.2.lt)))
     have z0 := keep_cell z0 hG
     clear hG hR z1 z2 z3 z4 z5 z6 z7 r0 r1 r2 H6
     go_wp2_with fail
     refine ⟨⟨k + 1, rfl, by omega, by rw [HS.out.1], by rw [HS.out.2], H7.out.1, H7.out.2.1, H7.out.2.2⟩, ?_⟩
     simp [intOf]
     omega
  ·obtain rfl : k = l.length := by omega
   clear hx hu2
   rw [<- HHD.out.1] at hh ⊢
   rw [<- HHD.out.2] at hd ⊢
   by_cases hd1 : D < 1
   ·have HF : Hid (refF H D = -1) := Lib.hid (by unfold refF; rw [if_pos hd1])
    go_wp2_with fail
    go_ret
    exact ⟨by rw [HF.out] <;> rfl, hn⟩
   ·by_cases hmn : 1000 * H / D < 10000
    ·have HF : Hid (refF H D = 1000 * H / D) := Lib.hid (by unfold refF factorN mnI; rw [if_neg hd1, if_pos hmn])
     go_wp2_with fail
     go_ret
     exact ⟨by rw [HF.out] <;> rfl, hn⟩
    ·have HF : Hid (refF H D = 10000) := Lib.hid (by unfold refF factorN mnI; rw [if_neg hd1, if_neg hmn])
     go_wp2_with fail
     go_ret
     exact ⟨by rw [HF.out] <;> rfl, hn⟩
end

section
open Go.RowKit Go.Shelf Go.Deep
theorem hK_congr {l : List Bd} {tr tr' : Nat -> Rl} : ∀ k, (∀ i, i < k -> tr i = tr' i) -> hK l tr k = hK l tr' k
 | 0, _ => rfl
 | k + 1, h => by simp only [hK]; rw [hK_congr k (fun i hi => h i (by omega)), h k (by omega)]
def refE (bs : List Bd) (hi : Bool) : Int := if dK bs bs.length < 1 then -1 else facE bs hi
theorem refE_is (bs : List Bd) (hi : Bool) : refF (hK bs (fun i => (bs.map (endR hi)).getD i ⟨0, 0, 0⟩) bs.length) (dK bs bs.length) = refE bs hi := by
 unfold refF refE facE
 rw [hK_congr (tr := fun i => (bs.map (endR hi)).getD i ⟨0, 0, 0⟩) (tr' := fun i => endR hi (bs.getD i zeroBd)) bs.length (fun i hi2 => by
  obtain ⟨b, hb⟩ := get_of_lt hi2
  simp [List.getD, hb])]
def vEnd (tl : List Rl) (v : Value) (W : World) : Prop := ∃ A c, v = .slice A tl.length c /\ Row rlL 3 W W.heap.size A tl
theorem vEnd_st {tl : List Rl} : ∀ v W W', vEnd tl v W -> newer W W' -> vEnd tl v W' := fun _ _ _ ⟨A, c, h1, h2⟩ hb => ⟨A, c, h1, (h2.below hb).more hb.size⟩
set_option maxRecDepth 100000 in
set_option maxHeartbeats 2000000 in
theorem refSpan_any (s : Sm) (u : Su) (k0 : Nat) (l : List Nat) (w : World) (hok : SmOk s w) (hs : SdOk s.sd) (hu : SuOk u w) (hf : u.frm = k0) (hl : u.beds = l.map fun x : Nat => (x : Int)) (hsf : SurfB s.sd.n s.cs.length s.sd.K k0 l) :
  Calls Try.prog 22 #[smV s, suV u] w fun e w' => e = .returned (rgV ⟨refE (bedsL s.sd.cols k0 l) false, refE (bedsL s.sd.cols k0 l) true⟩) /\ newer w w' := by
 have e1 := newer_allocH w (.cells (smC s) 24)
 have e2 := newer_allocH (w.alloc (.cells (smC s) 24)) (.cells (suC u) 27)
 have e3 := newer_allocH ((w.alloc (.cells (smC s) 24)).alloc (.cells (suC u) 27)) (.cells #[vi 0, vi 0] 42)
 have a1 := Whole.made w 24 (smC s)
 have a2 := Whole.made (w.alloc (.cells (smC s) 24)) 27 (suC u)
 have a3 := Whole.made ((w.alloc (.cells (smC s) 24)).alloc (.cells (suC u) 27)) 42 #[vi 0, vi 0]
 rw [World.size_alloc] at a2
 rw [World.size_alloc, World.size_alloc] at a3
 have H0 := Lib.hid (And.intro (newer_trans (newer_trans e1 e2) e3) (And.intro ((a1.below e2 a1.lt).below e3 (by simp; omega)) (And.intro (a2.below e3 a2.lt) a3)))
 clear e1 e2 e3 a1 a2 a3
 obtain ⟨bs, hbs⟩ : ∃ bs, bs = bedsL s.sd.cols k0 l := ⟨_, rfl⟩
 have hbl : bs.length = l.length := by rw [hbs]; exact bedsL_len _ _ _
 have HBO := bedsL_ok hs hsf.2.2 hsf.2.1
 rw [<- hbs] at HBO ⊢
 have hen : ∀ hi (W : World), newer w W -> Calls Try.prog 45 #[smV s, suV u, .bool hi] W fun e w' => ∃ A c, e = .returned (.slice A (bs.map (endR hi)).length c) /\ Row rlL 3 w' w'.heap.size A (bs.map (endR hi)) /\ newer W w' := fun hi W hW => by
  refine (ends_any s u k0 l hi W (hok.next hW) hs (hu.next hW) hf hl hsf).mono ?_
  rintro e w' ⟨A, c, h1, h2, h3⟩
  rw [<- hbs] at h2
  exact ⟨A, c, by rw [h1, List.length_map, hbl], row_of_own (enc := rlL) (size := 3) (by omega) (fun _ => rfl) h2, h3⟩
 have hfa : ∀ hi (W : World) A c, newer w W -> Row rlL 3 W W.heap.size A (bs.map (endR hi)) -> Calls Try.prog 48 #[smV s, suV u, .slice A (bs.map (endR hi)).length c] W fun e w' => e = .returned (vi (refE bs hi)) /\ newer W w' := fun hi W A c hW hr => by
  have h := refFactor_any s u k0 l (bs.map (endR hi)) A c W (hok.next hW) hs (hu.next hW) hf hl hsf hr (by rw [List.length_map, hbl]) (fun y hy => by
   obtain ⟨b, hb, rfl⟩ := List.mem_map.1 hy
   exact end_rlB (HBO b hb) hi)
  rw [<- hbs, <- hbl, refE_is] at h
  exact h
 obtain ⟨g0, hg0⟩ : ∃ g0, g0 = refE bs false := ⟨_, rfl⟩
 obtain ⟨g1, hg1⟩ : ∃ g1, g1 = refE bs true := ⟨_, rfl⟩
 have HF0' := Lib.hid (hfa false)
 have HF1' := Lib.hid (hfa true)
 rw [<- hg0] at HF0' ⊢
 rw [<- hg1] at HF1' ⊢
 have HE0' := Lib.hid (hen false)
 have HE1' := Lib.hid (hen true)
 clear hfa hen hg0 hg1 HBO hbl hbs hok hs hu hf hl hsf
 go_enter Try.func22, Try.ntmps22
 go_upto_region 1 with fail
 refine genQ (fun X => newer w X /\ Whole X w.heap.size 24 (smC s) /\ Whole X (w.heap.size + 1) 27 (suC u) /\ Whole X (w.heap.size + 1 + 1) 42 #[vi 0, vi 0]) H0.out ?_
 clear H0
 rintro w3 ⟨p1, p2, p3, p4⟩
 have HE0 := Lib.hid (fun W (hW : newer w3 W) => HE0'.out W (newer_trans p1 hW))
 have HE1 := Lib.hid (fun W (hW : newer w3 W) => HE1'.out W (newer_trans p1 hW))
 have HF0 := Lib.hid (fun W A c (hW : newer w3 W) => HF0'.out W A c (newer_trans p1 hW))
 have HF1 := Lib.hid (fun W A c (hW : newer w3 W) => HF1'.out W A c (newer_trans p1 hW))
 have x0 := p2.at 0 (v := .slice s.a s.cs.length s.c) rfl
 have x1 := p2.at 1 (v := vi s.least) rfl
 have u0 := p3.at 0 (v := vi u.frm) rfl
 have u1 := p3.at 1 (v := .slice u.a u.beds.length u.c) rfl
 have H3 := Lib.hid (And.intro p1 p4)
 clear p1 p2 p3 p4 HE0' HE1' HF0' HF1'
 refine wp_words (by kernel_rfl) (region_told 13 (by kernel_rfl) (by kernel_rfl) (fun W => Below w3.heap.size w3 W) newer (pickD [vIs (smV s), vIs (suV u), vIs (smV s), vIs (suV u), vEnd (bs.map (endR false)), vIs (vi g0), vIs (smV s), vIs (suV u), vIs (smV s), vIs (suV u), vEnd (bs.map (endR true)), vIs (vi g1), vIs (rgV ⟨g0, g1⟩)]) (fun h k => newer_trans h k) (pickD_stable _ ⟨vIs_st, vIs_st, vIs_st, vIs_st, vEnd_st, vIs_st, vIs_st, vIs_st, vIs_st, vIs_st, vEnd_st, vIs_st, vIs_st, trivial⟩) (Below.refl _ w3).drew (Below.refl _ _) ?_ ?_)
 ·refine ⟨?_, ?_, ?_, ?_, ?_, ?_, ?_, ?_, ?_, ?_, ?_, ?_, ?_, trivial⟩
  ·intro a W hG hR hO hp; have h2 := hO.slot 2 (by kernel_rfl); have c0 := keep_cell x0 hG; have c1 := keep_cell x1 hG; refine kY (v := smV s) hG rfl ?_; simp [slotOf] at h2; simp [execOp, go_sem, h2, c0, c1]
  ·intro a W hG hR hO hp; have h3 := hO.slot 3 (by kernel_rfl); have c0 := keep_cell u0 hG; have c1 := keep_cell u1 hG; refine kY (v := suV u) hG rfl ?_; simp [slotOf] at h3; simp [execOp, go_sem, h3, c0, c1]
  ·intro a W hG hR hO hp; have h2 := hO.slot 2 (by kernel_rfl); have c0 := keep_cell x0 hG; have c1 := keep_cell x1 hG; refine kY (v := smV s) hG rfl ?_; simp [slotOf] at h2; simp [execOp, go_sem, h2, c0, c1]
  ·intro a W hG hR hO hp; have h3 := hO.slot 3 (by kernel_rfl); have c0 := keep_cell u0 hG; have c1 := keep_cell u1 hG; refine kY (v := suV u) hG rfl ?_; simp [slotOf] at h3; simp [execOp, go_sem, h3, c0, c1]
  ·intro a W hG hR hO hp
   have h7 : slotOf a 7 = smV s := hp.1
   have h8 : slotOf a 8 = suV u := hp.2.1
   refine wp_enters (f := 45) (args := #[smV s, suV u, .bool false]) ?_ ((HE0.out W hG).mono ?_)
   ·simp [slotOf] at h7 h8
    simp [go_sem, h7, h8]
   ·rintro e w' ⟨A, c, rfl, hr, hb⟩
    exact ⟨_, rfl, _, rfl, ⟨A, c, rfl, hr⟩, hb, below_next hG hb⟩
  ·intro a W hG hR hO hp
   have h5 : slotOf a 5 = smV s := hp.1
   have h6 : slotOf a 6 = suV u := hp.2.1
   have h9 := hp.2.2.1
   obtain ⟨A, c, h9, hrow⟩ := h9
   refine wp_enters (f := 48) (args := #[smV s, suV u, .slice A (bs.map (endR false)).length c]) ?_ ((HF0.out W A c hG hrow).mono ?_)
   ·simp [slotOf] at h5 h6 h9
    simp [go_sem, h5, h6, h9]
   ·rintro e w' ⟨rfl, hb⟩
    exact ⟨_, rfl, _, rfl, rfl, hb, below_next hG hb⟩
  ·intro a W hG hR hO hp; have h2 := hO.slot 2 (by kernel_rfl); have c0 := keep_cell x0 hG; have c1 := keep_cell x1 hG; refine kY (v := smV s) hG rfl ?_; simp [slotOf] at h2; simp [execOp, go_sem, h2, c0, c1]
  ·intro a W hG hR hO hp; have h3 := hO.slot 3 (by kernel_rfl); have c0 := keep_cell u0 hG; have c1 := keep_cell u1 hG; refine kY (v := suV u) hG rfl ?_; simp [slotOf] at h3; simp [execOp, go_sem, h3, c0, c1]
  ·intro a W hG hR hO hp; have h2 := hO.slot 2 (by kernel_rfl); have c0 := keep_cell x0 hG; have c1 := keep_cell x1 hG; refine kY (v := smV s) hG rfl ?_; simp [slotOf] at h2; simp [execOp, go_sem, h2, c0, c1]
  ·intro a W hG hR hO hp; have h3 := hO.slot 3 (by kernel_rfl); have c0 := keep_cell u0 hG; have c1 := keep_cell u1 hG; refine kY (v := suV u) hG rfl ?_; simp [slotOf] at h3; simp [execOp, go_sem, h3, c0, c1]
  ·intro a W hG hR hO hp
   have h13 : slotOf a 13 = smV s := hp.1
   have h14 : slotOf a 14 = suV u := hp.2.1
   refine wp_enters (f := 45) (args := #[smV s, suV u, .bool true]) ?_ ((HE1.out W hG).mono ?_)
   ·simp [slotOf] at h13 h14
    simp [go_sem, h13, h14]
   ·rintro e w' ⟨A, c, rfl, hr, hb⟩
    exact ⟨_, rfl, _, rfl, ⟨A, c, rfl, hr⟩, hb, below_next hG hb⟩
  ·intro a W hG hR hO hp
   have h11 : slotOf a 11 = smV s := hp.1
   have h12 : slotOf a 12 = suV u := hp.2.1
   have h15 := hp.2.2.1
   obtain ⟨A, c, h15, hrow⟩ := h15
   refine wp_enters (f := 48) (args := #[smV s, suV u, .slice A (bs.map (endR true)).length c]) ?_ ((HF1.out W A c hG hrow).mono ?_)
   ·simp [slotOf] at h11 h12 h15
    simp [go_sem, h11, h12, h15]
   ·rintro e w' ⟨rfl, hb⟩
    exact ⟨_, rfl, _, rfl, rfl, hb, below_next hG hb⟩
  ·intro a W hG hR hO hp; have h10 : slotOf a 10 = vi g0 := hp.1; have h16 : slotOf a 16 = vi g1 := hp.2.1; refine kY (v := rgV ⟨g0, g1⟩) hG rfl ?_; simp [slotOf] at h10 h16; simp [execOp, go_sem, h10, h16]
 ·intro wz hG hR
  rintro _ rfl _ rfl _ rfl _ rfl _ - _ rfl _ rfl _ rfl _ rfl _ rfl _ - _ rfl _ rfl
  change wpList _ _ _ _ _ _
  simp only [Act.put, List.setIfInBounds_toArray, List.set_cons_zero, List.set_cons_succ, List.drop_succ_cons, List.drop_zero]
  have hr := H3.out.2.below hG H3.out.2.lt
  have r0 := hr.at 0 (v := vi 0) rfl
  have r1 := hr.at 1 (v := vi 0) rfl
  have f0 := hr.free 0
  have f1 := hr.free 1
  have hset := (hr.set 0 (vi g0)).set 1 (vi g1)
  have z0 := hset.at 0 (v := vi g0) rfl
  have z1 := hset.at 1 (v := vi g1) rfl
  have HN := Lib.hid (((newer_trans H3.out.1 hG).setCell (p := ⟨w.heap.size + 1 + 1, 0, none⟩) (by show w.heap.size <= w.heap.size + 1 + 1; omega) (vi g0)).setCell (p := ⟨w.heap.size + 1 + 1, 1, none⟩) (by show w.heap.size <= w.heap.size + 1 + 1; omega) (vi g1))
  clear hr hset hG hR x0 x1 u0 u1
  go_wp2_with fail
  exact bodyPost_ret (v := .agg #[vi g0, vi g1]) (by simp [results, Try.results22, go_sem, z0, z1]) rfl ⟨rfl, HN.out⟩
end

end Go.Proofs.Ytkenokpobbichaa
