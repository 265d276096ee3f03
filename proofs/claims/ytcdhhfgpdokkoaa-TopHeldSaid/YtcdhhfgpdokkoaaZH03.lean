/- What the last text of this chain needs: WkJ, WkK, WkL, WkM, WkS, WkN, WkO, WkP, WkQ. -/
import Derived.Test.YtcdhhfgpdokkoaaZH02
namespace Go.Proofs.Ytcdhhfgpdokkoaa
section
open Go.RowKit Go.Deep
def missB (ws : List Wd) (plan : List Int) (n : Nd) : Bool := decide (togN false n.slope.toNat n.year ws plan < n.due)
def missK (q : Nd -> Bool) (ns : List Nd) : Nat -> List Int
 | 0 => []
 | k + 1 => missK q ns k ++ (match ns[k]? with
  | some n => if q n then [(k : Int)] else []
  | none => [])
def missP (p : Pj) (plan : List Int) : List Int := missK (missB p.works plan) p.needs p.needs.length
theorem missK_yes {q : Nd -> Bool} {ns : List Nd} {k : Nat} {n : Nd} (h : ns[k]? = some n) (hq : q n = true) : missK q ns (k + 1) = missK q ns k ++ [(k : Int)] := by
 simp only [missK, h, hq, if_true]
theorem missK_no {q : Nd -> Bool} {ns : List Nd} {k : Nat} {n : Nd} (h : ns[k]? = some n) (hq : q n = false) : missK q ns (k + 1) = missK q ns k := by
 simp only [missK, h, hq, Bool.false_eq_true, if_false, List.append_nil]
theorem Try.info3w : (Try.prog.info? 3).map (fun i => (i.zero, i.size, i.bytes)) = some (some (.int .i64 0), 1, 8) := by kernel_rfl
end

section
open Go.RowKit
def paidB (ps sp : List Int) : Bool := (List.range ps.length).all fun y => decide ((sp.take (y + 1)).sum <= (ps.take (y + 1)).sum)
abbrev sp5 (f : List Int) : Array Value := #[vi (iAt f 0), vi (iAt f 1), vi (iAt f 2), vi (iAt f 3), vi (iAt f 4)]
theorem sp5_row {f : List Int} (h : f.length = 5) : (sp5 f).toList = f.flatMap intL := by
 match f, h with
 | [a, b, c, d, e], _ => rfl
set_option maxRecDepth 100000 in
set_option maxHeartbeats 2000000 in
theorem paid_any (p : Pm) (sp : List Int) (w : World) (hok : PmOk p w) (hp5 : p.ps.length <= 5) (hs5 : sp.length = 5) (hsb : ∀ x ∈ sp, 0 <= x /\ x <= 1000000000) (hpb : ∀ x ∈ p.ps, 0 <= x /\ x <= 1000000000) (hpc : p.ps.length <= p.pc) :
  Calls Try.prog 60 #[pmV p, .agg (sp5 sp)] w fun e w' => e = .returned (.bool (paidB p.ps sp)) /\ newer w w' := by
 have hnw := newer_trans (newer_allocH w (.cells (pmC p) 55)) (newer_allocH (w.alloc (.cells (pmC p) 55)) (.cells (sp5 sp) 135))
 have hb1 := (Whole.made w 55 (pmC p)).alloc (.cells (sp5 sp) 135)
 have hb2 := Whole.made (w.alloc (.cells (pmC p) 55)) 135 (sp5 sp)
 simp only [World.size_alloc] at hb2
 have HW := Lib.hid (And.intro hnw (And.intro hb1 hb2))
 have HOK := Lib.hid hok
 have HB := Lib.hid (And.intro hs5 (And.intro hsb hpb))
 clear hnw hb1 hb2 hok hsb hpb hs5
 unfold paidB
 go_enter Try.func60, Try.ntmps60
 go_wp2_with fail
 go_loopw [9] (fun s9 wr => ∃ k : Nat, k <= p.ps.length /\ s9 = .int .i64 k /\ newer w wr /\ Whole wr w.heap.size 55 (pmC p) /\ Whole wr (w.heap.size + 1) 135 (sp5 sp) /\ early (fun y => !decide ((sp.take (y + 1)).sum <= (p.ps.take (y + 1)).sum)) (List.range p.ps.length) k) (fun s9 _ => p.ps.length - (intOf s9).toNat)
 case atStart => exact ⟨0, Nat.zero_le _, rfl, HW.out.1, HW.out.2.1, HW.out.2.2, early_zero _ _⟩
 case round =>
  obtain ⟨k, hk, rfl, hbw, hbx, hby, he⟩ := hrel
  have HE := Lib.hid he
  clear he HW
  by_cases hlt : k < p.ps.length
  ·have hkn : (k : Int) < p.ps.length := by omega
   have hk5 : (k : Int) + 1 <= 5 := by omega
   have hk6 : (0 : Int) <= (k : Int) + 1 := by omega
   have hk7 : (k : Int) + 1 <= p.pc := by omega
   have hk9 : ¬ ((k : Int) + 1 < 0) := by omega
   have wk1 : IntKind.i64.wrap ((k : Int) + 1) = (k : Int) + 1 := IntWalk.i64_in _ (by omega)
   obtain ⟨y, hy⟩ := get_of_lt hlt
   obtain ⟨b2, o2, e2, _, _⟩ := row1 (HOK.out.next hbw).ps hy
   have z5 := hbx.at 5 (v := .slice p.pa p.ps.length p.pc) rfl
   rw [e2] at z5
   have hr1 : Row intL 1 wr wr.heap.size (some ⟨w.heap.size + 1, 0, none⟩) sp := row_of_whole (enc := intL) (s := 1) (fun _ => rfl) hby (sp5_row HB.out.1)
   have hr2 := (HOK.out.next hbw).ps
   rw [e2] at hr2
   have hl1 : (sp.take (k + 1)).length = k + 1 := by rw [List.length_take, HB.out.1]; omega
   have hl2 : (p.ps.take (k + 1)).length = k + 1 := by rw [List.length_take]; omega
   have HS1 : Hid (∀ W, newer wr W -> Calls Try.prog 90 #[.slice (some ⟨w.heap.size + 1, 0, none⟩) (k + 1) 5] W fun e w' => e = .returned (vi (sp.take (k + 1)).sum) /\ newer W w') := Lib.hid fun W hW => by
    have h := sum_any (sp.take (k + 1)) (some ⟨w.heap.size + 1, 0, none⟩) 5 W (by omega) (take_bd HB.out.2.1 _) ((hr1.take _).below hW |>.more hW.size)
    rw [hl1] at h
    exact h
   have HS2 : Hid (∀ W, newer wr W -> Calls Try.prog 90 #[.slice (some ⟨b2, o2, none⟩) (k + 1) p.pc] W fun e w' => e = .returned (vi (p.ps.take (k + 1)).sum) /\ newer W w') := Lib.hid fun W hW => by
    have h := sum_any (p.ps.take (k + 1)) (some ⟨b2, o2, none⟩) p.pc W (by omega) (take_bd HB.out.2.2 _) ((hr2.take _).below hW |>.more hW.size)
    rw [hl2] at h
    exact h
   obtain ⟨s1, hs1⟩ : ∃ s1, s1 = (sp.take (k + 1)).sum := ⟨_, rfl⟩
   obtain ⟨s2, hs2⟩ : ∃ s2, s2 = (p.ps.take (k + 1)).sum := ⟨_, rfl⟩
   rw [<- hs1] at HS1
   rw [<- hs2] at HS2
   have HK := Lib.hid (And.intro hs1 (And.intro hs2 (show (List.range p.ps.length)[k]? = some k from List.getElem?_range hlt)))
   have HBW := Lib.hid (And.intro hbw (And.intro hbx hby))
   clear e2 hr1 hr2 hl1 hl2 hs1 hs2 hbw hbx hby hy
   go_upto_region 4 with fail
   refine wp_words (by kernel_rfl) (region_told 10 (by kernel_rfl) (by kernel_rfl) (fun W => Below wr.heap.size wr W) newer (pickD [vIs (.int .i64 k), vIs (.int .i64 (k + 1)), vIs (.slice (some ⟨w.heap.size + 1, 0, none⟩) (k + 1) 5), vIs (vi s1), vIs (.pointer (some ⟨w.heap.size, 5, none⟩)), vIs (.slice (some ⟨b2, o2, none⟩) p.ps.length p.pc), vIs (.int .i64 k), vIs (.int .i64 (k + 1)), vIs (.slice (some ⟨b2, o2, none⟩) (k + 1) p.pc), vIs (vi s2)]) (fun h k => newer_trans h k) (pickD_stable _ ⟨vIs_st, vIs_st, vIs_st, vIs_st, vIs_st, vIs_st, vIs_st, vIs_st, vIs_st, vIs_st, trivial⟩) (Below.refl _ wr).drew (Below.refl _ _) ?_ ?_)
   ·refine ⟨?_, ?_, ?_, ?_, ?_, ?_, ?_, ?_, ?_, ?_, trivial⟩
    ·intro a W hG hR hO hp; have h5 := hO.slot 5 (by kernel_rfl); refine wp_yields (v := .int .i64 k) ?_ ⟨_, rfl, rfl, Below.refl _ _, hG⟩; simp [slotOf] at h5; simp [execOp, go_sem, h5]
    ·intro a W hG hR hO hp; have h12 : slotOf a 12 = .int .i64 k := hp.1; refine wp_yields (v := .int .i64 (k + 1)) ?_ ⟨_, rfl, rfl, Below.refl _ _, hG⟩; simp [slotOf] at h12; simp [execOp, go_sem, h12, wk1]
    ·intro a W hG hR hO hp; have h3 := hO.slot 3 (by kernel_rfl); have h13 : slotOf a 13 = .int .i64 (k + 1) := hp.1; refine wp_yields (v := .slice (some ⟨w.heap.size + 1, 0, none⟩) (k + 1) 5) ?_ ⟨_, rfl, rfl, Below.refl _ _, hG⟩; simp [slotOf] at h3 h13; simp [execOp, go_sem, h3, h13, hk5, hk6]
    ·intro a W hG hR hO hp
     have h14 : slotOf a 14 = .slice (some ⟨w.heap.size + 1, 0, none⟩) (k + 1) 5 := hp.1
     refine wp_enters (f := 90) (args := #[.slice (some ⟨w.heap.size + 1, 0, none⟩) (k + 1) 5]) ?_ ((HS1.out W hG).mono ?_)
     ·simp [slotOf] at h14
      simp [go_sem, h14]
     ·rintro e w' ⟨rfl, hb⟩
      exact ⟨_, rfl, _, rfl, rfl, hb, below_next hG hb⟩
    ·intro a W hG hR hO hp; have h2 := hO.slot 2 (by kernel_rfl); refine wp_yields (v := .pointer (some ⟨w.heap.size, 5, none⟩)) ?_ ⟨_, rfl, rfl, Below.refl _ _, hG⟩; simp [slotOf] at h2; simp [execOp, go_sem, h2]
    ·intro a W hG hR hO hp; have h16 : slotOf a 16 = .pointer (some ⟨w.heap.size, 5, none⟩) := hp.1; have c0 := keep_cell z5 hG; refine wp_yields (v := .slice (some ⟨b2, o2, none⟩) p.ps.length p.pc) ?_ ⟨_, rfl, rfl, Below.refl _ _, hG⟩; simp [slotOf] at h16; simp [execOp, go_sem, h16, c0]
    ·intro a W hG hR hO hp; have h5 := hO.slot 5 (by kernel_rfl); refine wp_yields (v := .int .i64 k) ?_ ⟨_, rfl, rfl, Below.refl _ _, hG⟩; simp [slotOf] at h5; simp [execOp, go_sem, h5]
    ·intro a W hG hR hO hp; have h18 : slotOf a 18 = .int .i64 k := hp.1; refine wp_yields (v := .int .i64 (k + 1)) ?_ ⟨_, rfl, rfl, Below.refl _ _, hG⟩; simp [slotOf] at h18; simp [execOp, go_sem, h18, wk1]
    ·intro a W hG hR hO hp; have h17 : slotOf a 17 = .slice (some ⟨b2, o2, none⟩) p.ps.length p.pc := hp.1; have h19 : slotOf a 19 = .int .i64 (k + 1) := hp.2.1; refine wp_yields (v := .slice (some ⟨b2, o2, none⟩) (k + 1) p.pc) ?_ ⟨_, rfl, rfl, Below.refl _ _, hG⟩; simp [slotOf] at h17 h19; simp [execOp, go_sem, h17, h19, hk7, hk9]
    ·intro a W hG hR hO hp
     have h20 : slotOf a 20 = .slice (some ⟨b2, o2, none⟩) (k + 1) p.pc := hp.1
     refine wp_enters (f := 90) (args := #[.slice (some ⟨b2, o2, none⟩) (k + 1) p.pc]) ?_ ((HS2.out W hG).mono ?_)
     ·simp [slotOf] at h20
      simp [go_sem, h20]
     ·rintro e w' ⟨rfl, hb⟩
      exact ⟨_, rfl, _, rfl, rfl, hb, below_next hG hb⟩
   ·intro W hG hR
    rintro _ rfl _ rfl _ rfl _ rfl _ rfl _ rfl _ rfl _ rfl _ rfl _ rfl
    change wpList _ _ _ _ _ _
    simp only [Act.put, List.setIfInBounds_toArray, List.set_cons_zero, List.set_cons_succ, List.drop_succ_cons, List.drop_zero]
    have HF := Lib.hid (And.intro (newer_trans HBW.out.1 hG) (And.intro (HBW.out.2.1.below hG HBW.out.2.1.lt) (HBW.out.2.2.below hG HBW.out.2.2.lt)))
    clear hG hR HBW z5
    by_cases hlo : s2 < s1
    ·go_wp2_with fail
     go_ret
     refine ⟨ret_bool (all_bad HK.out.2.2 ?_).symm, HF.out.1⟩
     rw [<- HK.out.1, <- HK.out.2.1]
     exact decide_eq_false (by omega)
    ·go_wp2_with fail
     go_roundw
     case rel =>
      refine ⟨k + 1, by omega, by go_num, HF.out.1, HF.out.2.1, HF.out.2.2, early_succ HE.out HK.out.2.2 ?_⟩
      rw [<- HK.out.1, <- HK.out.2.1, decide_eq_true (by omega : s1 <= s2)]
      rfl
     case measure => simp [intOf]; omega
  ·obtain rfl : k = p.ps.length := by omega
   have hkn : ¬ ((p.ps.length : Int) < p.ps.length) := by omega
   go_wp2_with fail
   go_ret
   exact ⟨ret_bool (all_early (by rw [List.length_range]; exact HE.out)).symm, hbw⟩
end

section
open Go.RowKit
structure Sx where
 n : Nat
 a : List Int
 p : List Int
deriving DecidableEq
structure SxOk (s : Sx) : Prop where
 a : s.a.length = 20
 p : s.p.length = 5
abbrev stC (s : Sx) : Array Value := #[vi (s.n : Int), vi (iAt s.a 0), vi (iAt s.a 1), vi (iAt s.a 2), vi (iAt s.a 3), vi (iAt s.a 4), vi (iAt s.a 5), vi (iAt s.a 6), vi (iAt s.a 7), vi (iAt s.a 8), vi (iAt s.a 9), vi (iAt s.a 10), vi (iAt s.a 11), vi (iAt s.a 12), vi (iAt s.a 13), vi (iAt s.a 14), vi (iAt s.a 15), vi (iAt s.a 16), vi (iAt s.a 17), vi (iAt s.a 18), vi (iAt s.a 19), vi (iAt s.p 0), vi (iAt s.p 1), vi (iAt s.p 2), vi (iAt s.p 3), vi (iAt s.p 4)]
theorem stC_list {s : Sx} (h : SxOk s) : (stC s).toList = vi (s.n : Int) :: (s.a ++ s.p).map vi := by
 have h1 : (s.a ++ s.p).map vi = ((List.range 20).map (iAt s.a) ++ (List.range 5).map (iAt s.p)).map vi := by
  rw [<- h.a, map_iAt, <- h.p, map_iAt]
 rw [h1]
 rfl
theorem stC_at {s : Sx} (h : SxOk s) (i : Nat) : (stC s)[i]? = (vi (s.n : Int) :: (s.a ++ s.p).map vi)[i]? := by
 rw [<- stC_list h, Array.getElem?_toList]
theorem stC_a {s : Sx} (h : SxOk s) {i : Nat} {x : Int} (hx : s.a[i]? = some x) : (stC s)[1 + i]? = some (vi x) := by
 have hi := (List.getElem?_eq_some_iff.1 hx).1
 rw [stC_at h, Nat.add_comm, List.getElem?_cons_succ, List.getElem?_map, List.getElem?_append_left hi, hx]
 rfl
theorem stC_p {s : Sx} (h : SxOk s) {i : Nat} {x : Int} (hx : s.p[i]? = some x) : (stC s)[21 + i]? = some (vi x) := by
 rw [stC_at h, show 21 + i = (20 + i) + 1 by omega, List.getElem?_cons_succ, List.getElem?_map, List.getElem?_append_right (by rw [h.a]; omega), h.a, show 20 + i - 20 = i by omega, hx]
 rfl
theorem stC_of {s : Sx} (h : SxOk s) {c : Array Value} (hc : c.toList = vi (s.n : Int) :: (s.a ++ s.p).map vi) : c = stC s := by
 apply Array.toList_inj.1
 rw [hc, stC_list h]
theorem stC_set_n (s : Sx) (m : Nat) : (stC s).setIfInBounds 0 (vi (m : Int)) = stC ⟨m, s.a, s.p⟩ := rfl
theorem stC_set_a {s : Sx} (h : SxOk s) {i : Nat} (hi : i < 20) (x : Int) : (stC s).setIfInBounds (1 + i) (vi x) = stC ⟨s.n, s.a.set i x, s.p⟩ := by
 refine stC_of (s := ⟨s.n, s.a.set i x, s.p⟩) ⟨by simp [h.a], h.p⟩ ?_
 rw [Array.toList_setIfInBounds, stC_list h, Nat.add_comm, List.set_cons_succ, <- List.map_set, List.set_append_left _ _ (by rw [h.a]; exact hi)]
theorem stC_set_p {s : Sx} (h : SxOk s) {i : Nat} (x : Int) : (stC s).setIfInBounds (21 + i) (vi x) = stC ⟨s.n, s.a, s.p.set i x⟩ := by
 refine stC_of (s := ⟨s.n, s.a, s.p.set i x⟩) ⟨h.a, by simp [h.p]⟩ ?_
 rw [Array.toList_setIfInBounds, stC_list h, show 21 + i = (20 + i) + 1 by omega, List.set_cons_succ, <- List.map_set, List.set_append_right _ _ (by rw [h.a]; omega), h.a, show 20 + i - 20 = i by omega]
theorem stC_row {s : Sx} (h : SxOk s) {W : World} {b : Nat} {t : TypeId} (hw : Whole W b t (stC s)) : Row intL 1 W W.heap.size (some ⟨b, 21, none⟩) s.p := fun _ => by
 refine ⟨b, 21, rfl, hw.lt, fun k x hk j v hv => ?_⟩
 obtain rfl : j = 0 := by
  rcases j with _ | j
  ·rfl
  ·simp at hv
 simp only [List.getElem?_cons_zero, Option.some.injEq] at hv
 subst hv
 rw [Nat.mul_one, Nat.add_zero]
 exact hw.at _ (stC_p h hk)
set_option maxRecDepth 100000 in
set_option maxHeartbeats 2000000 in
theorem cost_anyW (s : Sx) (w : World) (h : SxOk s) (hb : ∀ x ∈ s.p, 0 <= x /\ x <= 1000000000) :
  Calls Try.prog 59 #[.agg (stC s)] w fun e w' => e = .returned (vi s.p.sum) /\ newer w w' := by
 have hw := Whole.made w 137 (stC s)
 have HS := Lib.hid (by
  have h2 := sum_any s.p (some ⟨w.heap.size, 21, none⟩) 5 (w.alloc (.cells (stC s) 137)) (by rw [h.p]; omega) hb (stC_row h hw)
  rw [h.p] at h2
  exact h2)
 clear hw h hb
 go_enter Try.func59, Try.ntmps59
 go_wp2_with fail
 refine (HS.out).mono ?_
 rintro e w1 ⟨rfl, hb1⟩
 have HF := Lib.hid (newer_trans (newer_allocH w _) hb1)
 clear hb1 HS
 go_wp2_with fail
 go_ret
 exact ⟨rfl, HF.out⟩
abbrev plC (p : Pm) (wo : Int) (mb : Nat) : Array Value := #[vi p.years, vi p.slopes, .slice p.wa p.ws.length p.wc, .slice p.na p.ns.length p.nc, .slice p.va p.vs.length p.vc, .slice p.pa p.ps.length p.pc, vi wo, .map (some mb)]
def enoughB (ns : List Nd) (a : List Int) : Bool := (ns.zip a).all fun q => decide (q.1.due <= q.2)
set_option maxRecDepth 100000 in
set_option maxHeartbeats 2000000 in
theorem enough_anyW (p : Pm) (wo : Int) (mb qb : Nat) (s : Sx) (w : World) (hok : PmOk p w) (hq : Whole w qb 132 (plC p wo mb)) (h : SxOk s) (hn : p.ns.length <= 20) :
  Calls Try.prog 61 #[.pointer (some ⟨qb, 0, none⟩), .agg (stC s)] w fun e w' => e = .returned (.bool (enoughB p.ns s.a)) /\ newer w w' := by
 have hnw := newer_allocH w (.cells (stC s) 137)
 have hs := Whole.made w 137 (stC s)
 obtain ⟨sb, hsb⟩ : ∃ sb, sb = w.heap.size := ⟨_, rfl⟩
 rw [<- hsb] at hs
 have HZ := Lib.hid (show (p.ns.zip s.a).length = p.ns.length by rw [List.length_zip, h.a]; omega)
 have HW := Lib.hid (And.intro hnw (And.intro (hq.alloc (.cells (stC s) 137)) hs))
 have HS := Lib.hid h
 have HOK := Lib.hid hok
 have q3 := (hq.alloc (.cells (stC s) 137)).at 3 (v := .slice p.na p.ns.length p.nc) rfl
 unfold enoughB
 clear hnw hs hok h hq
 go_enter Try.func61, Try.ntmps61
 go_wp2_with fail
 rw [<- hsb]
 clear hsb q3
 obtain ⟨na, hna⟩ : ∃ na, na = p.na := ⟨_, rfl⟩
 rw [<- hna]
 have HNA := Lib.hid hna
 clear hna
 go_loopw [13] (fun s13 wr => ∃ k : Nat, k <= p.ns.length /\ s13 = .int .i64 k /\ newer w wr /\ Whole wr sb 137 (stC s) /\ early (fun q => !decide (q.1.due <= q.2)) (p.ns.zip s.a) k) (fun s13 _ => p.ns.length - (intOf s13).toNat)
 case atStart => exact ⟨0, Nat.zero_le _, rfl, HW.out.1, HW.out.2.2, early_zero _ _⟩
 case round =>
  obtain ⟨k, hk, rfl, hbw, hbs, he⟩ := hrel
  have HE := Lib.hid he
  clear he HW
  by_cases hlt : k < p.ns.length
  ·have hkn : (k : Int) < p.ns.length := by omega
   have hk20 : (k : Int) < 20 := by omega
   obtain ⟨n, hnn⟩ := get_of_lt hlt
   obtain ⟨x, hx⟩ := get_of_lt (l := s.a) (k := k) (by rw [HS.out.a]; omega)
   have HZK := Lib.hid (zip_at hnn hx)
   obtain ⟨b2, o2, e2, _, d0, d1, d2⟩ := row3W (HOK.out.next hbw).ns hnn
   have e3 := HNA.out.trans e2
   clear e2 HNA
   subst e3
   have HC1 := Lib.hid (stC_a HS.out hx)
   have HBW := Lib.hid (And.intro hbw hbs)
   clear hbw hbs hnn hx
   go_upto_region 4 with fail
   refine genQ (fun X => newer wr X /\ Whole X wr.heap.size 79 #[vi n.slope, vi n.year, vi n.due]) ⟨newer_allocH _ _, Whole.made _ _ _⟩ ?_
   obtain ⟨nb, hnb⟩ : ∃ nb, nb = wr.heap.size := ⟨_, rfl⟩
   rw [<- hnb]
   clear hnb d0 d1 d2
   rintro wv ⟨hn, hwx⟩
   have y2 := hwx.at 2 (v := vi n.due) rfl
   have hbs := HBW.out.2.below hn HBW.out.2.lt
   have c1 := hbs.at (1 + k) HC1.out
   have HB := Lib.hid (And.intro hn hbs)
   clear hn hwx hbs
   refine wp_words (by kernel_rfl) (region_told 6 (by kernel_rfl) (by kernel_rfl) (fun W => Below wv.heap.size wv W) newer (pickD [vIs (.int .i64 k), vIs (.pointer (some ⟨sb, 1, none⟩)), vIs (.pointer (some ⟨sb, 1 + k, none⟩)), vIs (vi x), vIs (.pointer (some ⟨nb, 2, none⟩)), vIs (vi n.due)]) (fun h k => newer_trans h k) (pickD_stable _ ⟨vIs_st, vIs_st, vIs_st, vIs_st, vIs_st, vIs_st, trivial⟩) (Below.refl _ wv).drew (Below.refl _ _) ?_ ?_)
   ·refine ⟨?_, ?_, ?_, ?_, ?_, ?_, trivial⟩
    ·intro a W hG hR hO hp; have h5 := hO.slot 5 (by kernel_rfl); refine wp_yields (v := .int .i64 k) ?_ ⟨_, rfl, rfl, Below.refl _ _, hG⟩; simp [slotOf] at h5; simp [execOp, go_sem, h5]
    ·intro a W hG hR hO hp; have h3 := hO.slot 3 (by kernel_rfl); refine wp_yields (v := .pointer (some ⟨sb, 1, none⟩)) ?_ ⟨_, rfl, rfl, Below.refl _ _, hG⟩; simp [slotOf] at h3; simp [execOp, go_sem, h3]
    ·intro a W hG hR hO hp; have h19 : slotOf a 19 = .pointer (some ⟨sb, 1, none⟩) := hp.1; have h18 : slotOf a 18 = .int .i64 k := hp.2.1; refine wp_yields (v := .pointer (some ⟨sb, 1 + k, none⟩)) ?_ ⟨_, rfl, rfl, Below.refl _ _, hG⟩; simp [slotOf] at h19 h18; simp [execOp, go_sem, h19, h18, hk20]
    ·intro a W hG hR hO hp; have h20 : slotOf a 20 = .pointer (some ⟨sb, 1 + k, none⟩) := hp.1; have c0 := keep_cell c1 hG; refine wp_yields (v := vi x) ?_ ⟨_, rfl, rfl, Below.refl _ _, hG⟩; simp [slotOf] at h20; simp [execOp, go_sem, h20, c0]
    ·intro a W hG hR hO hp; have h6 := hO.slot 6 (by kernel_rfl); refine wp_yields (v := .pointer (some ⟨nb, 2, none⟩)) ?_ ⟨_, rfl, rfl, Below.refl _ _, hG⟩; simp [slotOf] at h6; simp [execOp, go_sem, h6]
    ·intro a W hG hR hO hp; have h22 : slotOf a 22 = .pointer (some ⟨nb, 2, none⟩) := hp.1; have c0 := keep_cell y2 hG; refine wp_yields (v := vi n.due) ?_ ⟨_, rfl, rfl, Below.refl _ _, hG⟩; simp [slotOf] at h22; simp [execOp, go_sem, h22, c0]
   ·intro W hG hR
    rintro _ rfl _ rfl _ rfl _ rfl _ rfl _ rfl
    change wpList _ _ _ _ _ _
    simp only [Act.put, List.setIfInBounds_toArray, List.set_cons_zero, List.set_cons_succ, List.drop_succ_cons, List.drop_zero]
    have HF := Lib.hid (And.intro (newer_trans HBW.out.1 (newer_trans HB.out.1 hG)) (HB.out.2.below hG HB.out.2.lt))
    clear hG hR HB HBW y2 c1
    by_cases hlo : x < n.due
    ·go_wp2_with fail
     go_ret
     refine ⟨ret_bool (all_bad HZK.out ?_).symm, HF.out.1⟩
     exact decide_eq_false (by show ¬ (n.due <= x); omega)
    ·go_wp2_with fail
     go_roundw
     case rel =>
      refine ⟨k + 1, by omega, by go_num, HF.out.1, HF.out.2, early_succ HE.out HZK.out ?_⟩
      rw [decide_eq_true (by show n.due <= x; omega)]
      rfl
     case measure => simp [intOf]; omega
  ·obtain rfl : k = p.ns.length := by omega
   have hkn : ¬ ((p.ns.length : Int) < p.ns.length) := by omega
   go_wp2_with fail
   go_ret
   exact ⟨ret_bool (all_early (by rw [HZ.out]; exact HE.out)).symm, hbw⟩
end

section
open Go.RowKit Go.Deep
theorem Try.info123s : (Try.prog.info? 137).map (fun i => i.size) = some 26 := by kernel_rfl
theorem load_run {s : Sx} {W : World} {b : Nat} (hw : Whole W b 137 (stC s)) : (loadVar 137 ⟨b, 0, none⟩).run Try.prog W = .ok (.agg (stC s)) W := by
 have hu := run_underlying (P := Try.prog) (w := W) Try.underlying137
 obtain ⟨i0, hi0, hz⟩ := Option.map_eq_some_iff.1 Try.info123s
 have hl := run_loadCells_list (P := Try.prog) W ⟨b, 0, none⟩ (stC s).toList (fun j v hj => by
  have := hw.at j (v := v) (by rw [<- Array.getElem?_toList]; exact hj)
  rw [add_row, Nat.zero_add]
  exact this)
 have hlen : (stC s).toList.length = 26 := rfl
 rw [hlen] at hl
 generalize stC s = c at hl
 simp [loadVar, isAgg, hu, sizeOf, typeInfo, hi0, hz, hl]
theorem store_run {W : World} {b : Nat} {cs vs : Array Value} (hw : Whole W b 137 cs) (hc : cs.size = 26) (hv : vs.size = 26) (h1 : ∀ v ∈ vs.toList, v.oneCell' = true) : (storeVar 137 ⟨b, 0, none⟩ (.agg vs)).run Try.prog W = .ok () (W.setRow b vs) := by
 obtain ⟨i0, hi0, hz⟩ := Option.map_eq_some_iff.1 Try.info123s
 have hs := run_storeCells_from (P := Try.prog) b 137 vs.toList 0 cs W hw (by simp; omega) h1
 simp at hs
 simp [storeVar, Value.cells, sizeOf, typeInfo, hi0, hz, hv, hs]
theorem exec_load {o : Oper} {a : Act} {W : World} {b : Nat} {c : Array Value} {x : Operand} (ho : o.op = .load 137 x) (hx : a.eval x = .pointer (some ⟨b, 0, none⟩))  (hl : (loadVar 137 ⟨b, 0, none⟩).run Try.prog W = .ok (.agg c) W) : (execOp a.eval o).run Try.prog W = .ok (.value (.agg c)) W := by
 unfold execOp
 rw [ho]
 dsimp only
 rw [hx]
 have e : Instr.loadAt 137 (Value.pointer (some { block := b, off := 0 })) = loadVar 137 ⟨b, 0, none⟩ := rfl
 rw [e]
 generalize loadVar 137 ⟨b, 0, none⟩ = m at hl
 simp [hl]
theorem exec_store {o : Oper} {a : Act} {W W' : World} {b : Nat} {c : Array Value} {x y : Operand} (ho : o.op = .store 137 x y) (hx : a.eval x = .pointer (some ⟨b, 0, none⟩)) (hy : a.eval y = .agg c)  (hl : (storeVar 137 ⟨b, 0, none⟩ (.agg c)).run Try.prog W = .ok () W') : (execOp a.eval o).run Try.prog W = .ok .skip W' := by
 unfold execOp
 rw [ho]
 dsimp only
 rw [hx, hy]
 have e : Instr.storeAt 137 (Value.pointer (some { block := b, off := 0 })) (.agg c) = storeVar 137 ⟨b, 0, none⟩ (.agg c) := rfl
 rw [e]
 generalize storeVar 137 ⟨b, 0, none⟩ (.agg c) = m at hl
 simp [hl]
theorem wpList_load_s {ops : Array Oper} {rest : List Oper} {o : Oper} {a : Act} {Q : Exit -> Act -> World -> Prop} {W : World} {s : Sx} (hg : o.guard = none) (x : Operand) (ho : o.op = .load 137 x) (b : Nat) (hx : a.eval x = .pointer (some ⟨b, 0, none⟩)) (hw : Whole W b 137 (stC s)) (h : wpList Try.prog ops Q rest (a.put o.dst (.agg (stC s))) W) : wpList Try.prog ops Q (o :: rest) a W :=
 wpList_plain hg fun _ hK => by
  have hl := load_run hw
  generalize stC s = c at hl h
  unfold Oper.wp
  rw [exec_load ho hx hl]
  exact hK _ _ h
theorem wpList_store_s {ops : Array Oper} {rest : List Oper} {o : Oper} {a : Act} {Q : Exit -> Act -> World -> Prop} {W : World} {s : Sx} {cs : Array Value} (hg : o.guard = none) (x y : Operand) (ho : o.op = .store 137 x y) (b : Nat) (hx : a.eval x = .pointer (some ⟨b, 0, none⟩)) (hy : a.eval y = .agg (stC s)) (hw : Whole W b 137 cs) (hc : cs.size = 26) (h : wpList Try.prog ops Q rest (a.put o.dst undef) (W.setRow b (stC s))) : wpList Try.prog ops Q (o :: rest) a W :=
 wpList_plain hg fun _ hK => by
  have hl := store_run (vs := stC s) hw hc rfl (by simp [Value.oneCell'])
  generalize stC s = c at hl h hy
  unfold Oper.wp
  rw [exec_store ho hx hy hl]
  exact hK _ _ h
def addU (x : Wd) (y : Int) (n : Nd) (v : Int) : Int := mnI n.due (v + addsN x y n.year (rAt x.adds n.slope.toNat).lo)
def buildA (x : Wd) (y : Int) (ns : List Nd) (a : List Int) : Nat -> List Int
 | 0 => a
 | k + 1 => match ns[k]? with
  | some n => (buildA x y ns a k).set k (addU x y n (iAt a k))
  | none => buildA x y ns a k
def buildS (x : Wd) (ns : List Nd) (s : Sx) (y : Int) : Sx :=
 if y = -1 then ⟨s.n + 1, s.a, s.p⟩ else ⟨s.n + 1, buildA x y ns s.a ns.length, s.p.set y.toNat (iAt s.p y.toNat + x.price)⟩
theorem buildA_len (x : Wd) (y : Int) (ns : List Nd) (a : List Int) : ∀ k, (buildA x y ns a k).length = a.length
 | 0 => rfl
 | k + 1 => by
  unfold buildA
  split
  ·rw [List.length_set]; exact buildA_len x y ns a k
  ·exact buildA_len x y ns a k
theorem buildA_far (x : Wd) (y : Int) (ns : List Nd) (a : List Int) : ∀ k i, k <= i -> (buildA x y ns a k)[i]? = a[i]?
 | 0, _, _ => rfl
 | k + 1, i, h => by
  unfold buildA
  split
  ·rw [List.getElem?_set_ne (by omega)]; exact buildA_far x y ns a k i (by omega)
  ·exact buildA_far x y ns a k i (by omega)
structure BdM (w : World) (x : Wk) (sb rb xb : Nat) (s : Sx) (W : World) : Prop where
 nw : newer w W
 sx : Whole W sb 137 (stC s)
 rx : Whole W rb 137 #[vi 0, vi 0, vi 0, vi 0, vi 0, vi 0, vi 0, vi 0, vi 0, vi 0, vi 0, vi 0, vi 0, vi 0, vi 0, vi 0, vi 0, vi 0, vi 0, vi 0, vi 0, vi 0, vi 0, vi 0, vi 0, vi 0]
 xx : Whole W xb 78 (wkC x)
theorem BdM.next {w W W' : World} {x : Wk} {sb rb xb : Nat} {s : Sx} (h : BdM w x sb rb xb s W) (hb : newer W W') : BdM w x sb rb xb s W' :=
 ⟨newer_trans h.nw hb, h.sx.below hb h.sx.lt, h.rx.below hb h.rx.lt, h.xx.below hb h.xx.lt⟩
theorem BdM.turn {w W : World} {x : Wk} {sb rb xb : Nat} {s s' : Sx} (h : BdM w x sb rb xb s W) (i : Nat) (u : Value) (hs : w.heap.size <= sb) (h1 : rb ≠ sb) (h2 : xb ≠ sb) (e : (stC s).setIfInBounds i u = stC s') : BdM w x sb rb xb s' (W.setCell ⟨sb, i, none⟩ u) :=
 ⟨h.nw.setCell (p := ⟨sb, i, none⟩) hs _, e ▸ h.sx.set i u, h.rx.far (p := ⟨sb, i, none⟩) h1 _, h.xx.far (p := ⟨sb, i, none⟩) h2 _⟩
set_option maxRecDepth 100000 in
set_option maxHeartbeats 4000000 in
theorem build_any (p : Pm) (wo : Int) (mb qb : Nat) (s : Sx) (y : Int) (x : Wk) (w : World) (hok : PmOk p w) (hpo : PjOk p) (hq : Whole w qb 132 (plC p wo mb)) (h : SxOk s) (hx : p.ws[s.n]? = some x) (hy : y = -1 ∨ (0 <= y /\ y <= 4))
  (ha : ∀ z ∈ s.a, 0 <= z /\ z <= 1000000) (hp : ∀ z ∈ s.p, 0 <= z /\ z <= 1000000000) :
  Calls Try.prog 63 #[.pointer (some ⟨qb, 0, none⟩), .agg (stC s), vi y] w fun e w' => e = .returned (.agg (stC (buildS x.d p.ns s y))) /\ newer w w' := by
 have hnw := newer_trans (newer_allocH w (.cells (stC s) 137)) (newer_allocH (w.alloc (.cells (stC s) 137)) (.cells #[vi 0, vi 0, vi 0, vi 0, vi 0, vi 0, vi 0, vi 0, vi 0, vi 0, vi 0, vi 0, vi 0, vi 0, vi 0, vi 0, vi 0, vi 0, vi 0, vi 0, vi 0, vi 0, vi 0, vi 0, vi 0, vi 0] 137))
 have hs := (Whole.made w 137 (stC s)).alloc (.cells #[vi 0, vi 0, vi 0, vi 0, vi 0, vi 0, vi 0, vi 0, vi 0, vi 0, vi 0, vi 0, vi 0, vi 0, vi 0, vi 0, vi 0, vi 0, vi 0, vi 0, vi 0, vi 0, vi 0, vi 0, vi 0, vi 0] 137)
 have hr := Whole.made (w.alloc (.cells (stC s) 137)) 137 #[vi 0, vi 0, vi 0, vi 0, vi 0, vi 0, vi 0, vi 0, vi 0, vi 0, vi 0, vi 0, vi 0, vi 0, vi 0, vi 0, vi 0, vi 0, vi 0, vi 0, vi 0, vi 0, vi 0, vi 0, vi 0, vi 0]
 simp only [World.size_alloc] at hr
 have hsl := (List.getElem?_eq_some_iff.1 hx).1
 have hsn : (s.n : Int) < p.ws.length := by omega
 have hn8 := hpo.wn
 have HPO := Lib.hid hpo
 have HS := Lib.hid (And.intro h (And.intro ha hp))
 have HX := Lib.hid hx
 have HQ := Lib.hid (And.intro hok hq)
 clear h ha hp hx hpo hok hq hsl
 go_enter Try.func63, Try.ntmps63
 go_upto_region 1 with fail
 refine genQ (fun X => newer w X /\ Whole X w.heap.size 137 (stC s) /\ Whole X (w.heap.size + 1) 137 #[vi 0, vi 0, vi 0, vi 0, vi 0, vi 0, vi 0, vi 0, vi 0, vi 0, vi 0, vi 0, vi 0, vi 0, vi 0, vi 0, vi 0, vi 0, vi 0, vi 0, vi 0, vi 0, vi 0, vi 0, vi 0, vi 0]) ⟨hnw, hs, hr⟩ ?_
 obtain ⟨sb, hsb⟩ : ∃ sb, sb = w.heap.size := ⟨_, rfl⟩
 rw [<- hsb]
 obtain ⟨rb, hrb⟩ : ∃ rb, rb = sb + 1 := ⟨_, rfl⟩
 rw [<- hrb]
 clear hnw hs hr
 rintro wv ⟨hn, hs, hr⟩
 have s0 := hs.at 0 (v := vi (s.n : Int)) rfl
 have q2 := (HQ.out.2.below hn HQ.out.2.lt).at 2 (v := .slice p.wa p.ws.length p.wc) rfl
 obtain ⟨b2, o2, e2, _, d0, d1, d2, d3, d4, d5⟩ := row6 (HQ.out.1.next hn).ws HX.out
 rw [e2] at q2
 clear e2
 have HW := Lib.hid (And.intro hn (And.intro hs hr))
 have HSZ0 := Lib.hid (And.intro hsb hrb)
 clear hn hs hr hsb hrb
 refine wp_words (by kernel_rfl) (region_told 10 (by kernel_rfl) (by kernel_rfl) (fun W => Below wv.heap.size wv W) newer (pickD [vIs (.pointer (some ⟨qb, 0, none⟩)), vIs (.pointer (some ⟨qb, 0, none⟩)), vIs (.pointer (some ⟨qb, 0, none⟩)), vIs (.pointer (some ⟨qb, 2, none⟩)), vIs (.slice (some ⟨b2, o2, none⟩) p.ws.length p.wc), vIs (.pointer (some ⟨sb, 0, none⟩)), vIs (vi (s.n : Int)), vIs (.pointer (some ⟨b2, o2 + s.n * 6, none⟩)), vIs (wkV x), vNew wv.heap.size 78 #[vi 0, vi 0, vi 0, vi 0, vi 0, .slice none 0 0]]) (fun h k => newer_trans h k) (pickD_stable _ ⟨vIs_st, vIs_st, vIs_st, vIs_st, vIs_st, vIs_st, vIs_st, vIs_st, vIs_st, vNew_st, trivial⟩) (Below.refl _ wv).drew (Below.refl _ _) ?_ ?_)
 ·refine ⟨?_, ?_, ?_, ?_, ?_, ?_, ?_, ?_, ?_, ?_, trivial⟩
  ·intro a W hG hR hO hp; have h0 := hO.slot 0 (by kernel_rfl); refine wp_yields (v := .pointer (some ⟨qb, 0, none⟩)) ?_ ⟨_, rfl, rfl, Below.refl _ _, hG⟩; simp [slotOf] at h0; simp [execOp, go_sem, h0]
  ·intro a W hG hR hO hp; have h10 : slotOf a 10 = .pointer (some ⟨qb, 0, none⟩) := hp.1; refine wp_yields (v := .pointer (some ⟨qb, 0, none⟩)) ?_ ⟨_, rfl, rfl, Below.refl _ _, hG⟩; simp [slotOf] at h10; simp [execOp, go_sem, h10]
  ·intro a W hG hR hO hp; have h11 : slotOf a 11 = .pointer (some ⟨qb, 0, none⟩) := hp.1; refine wp_yields (v := .pointer (some ⟨qb, 0, none⟩)) ?_ ⟨_, rfl, rfl, Below.refl _ _, hG⟩; simp [slotOf] at h11; simp [execOp, go_sem, h11]
  ·intro a W hG hR hO hp; have h12 : slotOf a 12 = .pointer (some ⟨qb, 0, none⟩) := hp.1; refine wp_yields (v := .pointer (some ⟨qb, 2, none⟩)) ?_ ⟨_, rfl, rfl, Below.refl _ _, hG⟩; simp [slotOf] at h12; simp [execOp, go_sem, h12]
  ·intro a W hG hR hO hp; have h13 : slotOf a 13 = .pointer (some ⟨qb, 2, none⟩) := hp.1; have c0 := keep_cell q2 hG; refine wp_yields (v := .slice (some ⟨b2, o2, none⟩) p.ws.length p.wc) ?_ ⟨_, rfl, rfl, Below.refl _ _, hG⟩; simp [slotOf] at h13; simp [execOp, go_sem, h13, c0]
  ·intro a W hG hR hO hp; have h4 := hO.slot 4 (by kernel_rfl); refine wp_yields (v := .pointer (some ⟨sb, 0, none⟩)) ?_ ⟨_, rfl, rfl, Below.refl _ _, hG⟩; simp [slotOf] at h4; simp [execOp, go_sem, h4]
  ·intro a W hG hR hO hp; have h15 : slotOf a 15 = .pointer (some ⟨sb, 0, none⟩) := hp.1; have c0 := keep_cell s0 hG; refine wp_yields (v := vi (s.n : Int)) ?_ ⟨_, rfl, rfl, Below.refl _ _, hG⟩; simp [slotOf] at h15; simp [execOp, go_sem, h15, c0]
  ·intro a W hG hR hO hp; have h14 : slotOf a 14 = .slice (some ⟨b2, o2, none⟩) p.ws.length p.wc := hp.1; have h16 : slotOf a 16 = vi (s.n : Int) := hp.2.1; refine wp_yields (v := .pointer (some ⟨b2, o2 + s.n * 6, none⟩)) ?_ ⟨_, rfl, rfl, Below.refl _ _, hG⟩; simp [slotOf] at h14 h16; simp [execOp, go_sem, h14, h16, hsn]
  ·intro a W hG hR hO hp; have h17 : slotOf a 17 = .pointer (some ⟨b2, o2 + s.n * 6, none⟩) := hp.1; have c0 := keep_cell d0 hG; have c1 := keep_cell d1 hG; have c2 := keep_cell d2 hG; have c3 := keep_cell d3 hG; have c4 := keep_cell d4 hG; have c5 := keep_cell d5 hG; refine wp_yields (v := wkV x) ?_ ⟨_, rfl, rfl, Below.refl _ _, hG⟩; simp [slotOf] at h17; simp [execOp, go_sem, h17, c0, c1, c2, c3, c4, c5]
  ·intro a W hG hR hO hp; refine wp_makes (v := .pointer (some ⟨W.heap.size, 0, none⟩)) (W' := W.alloc (.cells #[vi 0, vi 0, vi 0, vi 0, vi 0, .slice none 0 0] 78)) ?_ ⟨_, rfl, ⟨_, rfl, hG.size, Whole.made _ _ _⟩, (Below.refl _ _).alloc (Nat.le_refl _) _, hG.alloc hG.size _⟩; skip; simp [execOp, go_sem]
 ·intro W hG hR
  rintro _ rfl _ rfl _ rfl _ rfl _ rfl _ rfl _ rfl _ rfl _ rfl _ ⟨xb, rfl, hxb, hwx⟩
  change wpList _ _ _ _ _ _
  simp only [Act.put, List.setIfInBounds_toArray, List.set_cons_zero, List.set_cons_succ, List.drop_succ_cons, List.drop_zero]
  have HG := Lib.hid (And.intro hG hxb)
  have HWX := Lib.hid hwx
  have b0 := hwx.at 0 rfl
  have b1 := hwx.at 1 rfl
  have b2 := hwx.at 2 rfl
  have b3 := hwx.at 3 rfl
  have b4 := hwx.at 4 rfl
  have b5 := hwx.at 5 rfl
  have f0 := hwx.free 0
  have f1 := hwx.free 1
  have f2 := hwx.free 2
  have f3 := hwx.free 3
  have f4 := hwx.free 4
  have f5 := hwx.free 5
  have HSZ : Hid (w.heap.size <= sb /\ w.heap.size <= rb /\ w.heap.size <= xb /\ rb ≠ sb /\ xb ≠ sb /\ xb ≠ rb) := Lib.hid (by
   have h1 := HSZ0.out.1
   have h2 := HSZ0.out.2
   have h3 := HW.out.2.2.lt
   have h4 := HG.out.2
   refine ⟨?_, ?_, ?_, ?_, ?_, ?_⟩ <;> omega)
  clear hG hR hxb hwx q2 s0 d0 d1 d2 d3 d4 d5
  go_upto_region 2 with fail
  have HNB := Lib.hid (((((((HG.out.1).setCell (p := ⟨xb, 0, none⟩) HG.out.2 (vi x.d.price)).setCell (p := ⟨xb, 1, none⟩) HG.out.2 (vi x.d.first)).setCell (p := ⟨xb, 2, none⟩) HG.out.2 (vi x.d.last)).setCell (p := ⟨xb, 3, none⟩) HG.out.2 (vi x.d.age)).setCell (p := ⟨xb, 4, none⟩) HG.out.2 (vi x.d.village)).setCell (p := ⟨xb, 5, none⟩) HG.out.2 (.slice x.a x.d.adds.length x.cp))
  refine genQ (BdM w x sb rb xb s) ⟨newer_trans HW.out.1 HNB.out, HW.out.2.1.below HNB.out HW.out.2.1.lt, HW.out.2.2.below HNB.out HW.out.2.2.lt, ((((((HWX.out).set 0 _).set 1 _).set 2 _).set 3 _).set 4 _).set 5 _⟩ ?_
  clear HG HWX HW HNB b0 b1 b2 b3 b4 b5 f0 f1 f2 f3 f4 f5 HSZ0
  intro wv hb
  have s0 := hb.sx.at 0 (v := vi (s.n : Int)) rfl
  have fs := hb.sx.free 0
  have wn : IntKind.i64.wrap ((s.n : Int) + 1) = (s.n : Int) + 1 := IntWalk.i64_in _ (by omega)
  have HB := Lib.hid hb
  clear hb
  go_upto_region 3 with fail
  obtain ⟨s1, hs1⟩ : ∃ s1 : Sx, s1 = ⟨s.n + 1, s.a, s.p⟩ := ⟨_, rfl⟩
  refine genQ (BdM w x sb rb xb s1) (HB.out.turn 0 _ HSZ.out.1 HSZ.out.2.2.2.1 HSZ.out.2.2.2.2.1 (by rw [hs1]; exact stC_set_n s (s.n + 1))) ?_
  have HS1 := Lib.hid hs1
  clear HB s0 fs wn hs1
  intro wv hb
  by_cases hy1 : y = -1
  case pos =>
   have hyb : (y == -1) = true := by rw [beq_iff_eq]; exact hy1
   have hbs : buildS x.d p.ns s y = s1 := by unfold buildS; rw [if_pos hy1, HS1.out]
   have HBS := Lib.hid hbs
   clear hbs hy1 hy
   have HE := Lib.hid hb
   clear hb
   go_wp2_with (first | (refine wpList_load_s (s := s1) rfl (.tmp 4) rfl sb rfl HE.out.sx ?_) | (refine wpList_store_s (s := s1) rfl (.tmp 6) (.tmp 25) rfl rb rfl rfl HE.out.rx rfl ?_))
   exact bodyPost_ret (v := .agg (stC s1)) (results_cell_row (fn := Try.f63) Try.results63 _ _ rb 137 (stC s1) (0, 0) _ rfl (HE.out.rx.setRow (stC s1)) Try.underlying137 rfl (by rw [Try.info123s]; rfl)) rfl ⟨by rw [HBS.out], below_setRow HE.out.nw HSZ.out.2.1 _⟩
  case neg =>
   have hyb : (y == -1) = false := by rw [beq_eq_false_iff_ne]; exact hy1
   obtain ⟨yk, hyk⟩ : ∃ yk : Nat, y = yk := ⟨y.toNat, by omega⟩
   have hy4 : yk <= 4 := by omega
   subst hyk
   have hy5 : (yk : Int) < 5 := by omega
   have HY1 := Lib.hid hy1
   obtain ⟨pv, hpv⟩ := get_of_lt (l := s.p) (k := yk) (by rw [HS.out.1.p]; omega)
   have hpb := HS.out.2.2 pv (List.mem_of_getElem? hpv)
   have hw := wdB_parts (HPO.out.ws x (List.mem_of_getElem? HX.out))
   obtain ⟨pn, hpn⟩ : ∃ pn, pn = pv + x.d.price := ⟨_, rfl⟩
   have epn : IntKind.i64.wrap (pv + x.d.price) = pn := by rw [<- hpn]; exact IntWalk.i64_in _ (by omega)
   have ok1 : SxOk s1 := by rw [HS1.out]; exact ⟨HS.out.1.a, HS.out.1.p⟩
   have hp1 : s1.p[yk]? = some pv := by rw [HS1.out]; exact hpv
   have HP := Lib.hid (And.intro hpv (And.intro hpn (And.intro ok1 (stC_p ok1 hp1))))
   have cp := hb.sx.at (21 + yk) HP.out.2.2.2
   have cx := hb.xx.at 0 (v := vi x.d.price) rfl
   have HB := Lib.hid hb
   clear hy hy1 hpv hpb hw hpn ok1 hp1 hb
   go_upto_region 5 with fail
   refine wp_words (by kernel_rfl) (region_told 9 (by kernel_rfl) (by kernel_rfl) (fun W => Below wv.heap.size wv W) newer (pickD [vIs (vi (yk : Int)), vIs (.pointer (some ⟨sb, 21, none⟩)), vIs (.pointer (some ⟨sb, 21 + yk, none⟩)), vIs (vi pv), vIs (.pointer (some ⟨xb, 0, none⟩)), vIs (vi x.d.price), vIs (vi pn), vIs (.pointer (some ⟨sb, 21, none⟩)), vIs (.pointer (some ⟨sb, 21 + yk, none⟩))]) (fun h k => newer_trans h k) (pickD_stable _ ⟨vIs_st, vIs_st, vIs_st, vIs_st, vIs_st, vIs_st, vIs_st, vIs_st, vIs_st, trivial⟩) (Below.refl _ wv).drew (Below.refl _ _) ?_ ?_)
   ·refine ⟨?_, ?_, ?_, ?_, ?_, ?_, ?_, ?_, ?_, trivial⟩
    ·intro a W hG hR hO hp; have h2 := hO.slot 2 (by kernel_rfl); refine wp_yields (v := vi (yk : Int)) ?_ ⟨_, rfl, rfl, Below.refl _ _, hG⟩; simp [slotOf] at h2; simp [execOp, go_sem, h2]
    ·intro a W hG hR hO hp; have h4 := hO.slot 4 (by kernel_rfl); refine wp_yields (v := .pointer (some ⟨sb, 21, none⟩)) ?_ ⟨_, rfl, rfl, Below.refl _ _, hG⟩; simp [slotOf] at h4; simp [execOp, go_sem, h4]
    ·intro a W hG hR hO hp; have h27 : slotOf a 27 = .pointer (some ⟨sb, 21, none⟩) := hp.1; have h26 : slotOf a 26 = vi (yk : Int) := hp.2.1; refine wp_yields (v := .pointer (some ⟨sb, 21 + yk, none⟩)) ?_ ⟨_, rfl, rfl, Below.refl _ _, hG⟩; simp [slotOf] at h27 h26; simp [execOp, go_sem, h27, h26, hy5]
    ·intro a W hG hR hO hp; have h28 : slotOf a 28 = .pointer (some ⟨sb, 21 + yk, none⟩) := hp.1; have c0 := keep_cell cp hG; refine wp_yields (v := vi pv) ?_ ⟨_, rfl, rfl, Below.refl _ _, hG⟩; simp [slotOf] at h28; simp [execOp, go_sem, h28, c0]
    ·intro a W hG hR hO hp; have h7 := hO.slot 7 (by kernel_rfl); refine wp_yields (v := .pointer (some ⟨xb, 0, none⟩)) ?_ ⟨_, rfl, rfl, Below.refl _ _, hG⟩; simp [slotOf] at h7; simp [execOp, go_sem, h7]
    ·intro a W hG hR hO hp; have h30 : slotOf a 30 = .pointer (some ⟨xb, 0, none⟩) := hp.1; have c0 := keep_cell cx hG; refine wp_yields (v := vi x.d.price) ?_ ⟨_, rfl, rfl, Below.refl _ _, hG⟩; simp [slotOf] at h30; simp [execOp, go_sem, h30, c0]
    ·intro a W hG hR hO hp; have h29 : slotOf a 29 = vi pv := hp.1; have h31 : slotOf a 31 = vi x.d.price := hp.2.1; refine wp_yields (v := vi pn) ?_ ⟨_, rfl, rfl, Below.refl _ _, hG⟩; simp [slotOf] at h29 h31; simp [execOp, go_sem, h29, h31, epn]
    ·intro a W hG hR hO hp; have h4 := hO.slot 4 (by kernel_rfl); refine wp_yields (v := .pointer (some ⟨sb, 21, none⟩)) ?_ ⟨_, rfl, rfl, Below.refl _ _, hG⟩; simp [slotOf] at h4; simp [execOp, go_sem, h4]
    ·intro a W hG hR hO hp; have h33 : slotOf a 33 = .pointer (some ⟨sb, 21, none⟩) := hp.1; have h26 : slotOf a 26 = vi (yk : Int) := hp.2.1; refine wp_yields (v := .pointer (some ⟨sb, 21 + yk, none⟩)) ?_ ⟨_, rfl, rfl, Below.refl _ _, hG⟩; simp [slotOf] at h33 h26; simp [execOp, go_sem, h33, h26, hy5]
   ·intro W hG hR
    rintro _ rfl _ rfl _ rfl _ rfl _ rfl _ rfl _ rfl _ rfl _ rfl
    change wpList _ _ _ _ _ _
    simp only [Act.put, List.setIfInBounds_toArray, List.set_cons_zero, List.set_cons_succ, List.drop_succ_cons, List.drop_zero]
    have hb := HB.out.next hG
    have cs := hb.sx.at (21 + yk) HP.out.2.2.2
    have fs := hb.sx.free (21 + yk)
    have HC := Lib.hid hb
    clear hG hR hb HB cp cx
    go_upto_region 6 with fail
    refine genQ (BdM w x sb rb xb ⟨s.n + 1, buildA x.d yk p.ns s.a 0, s.p.set yk pn⟩) (HC.out.turn (21 + yk) _ HSZ.out.1 HSZ.out.2.2.2.1 HSZ.out.2.2.2.2.1 (by rw [stC_set_p HP.out.2.2.1, HS1.out]; rfl)) ?_
    clear HC cs fs epn
    intro wv hb
    have hnn := HPO.out.nn
    have q3 := (HQ.out.2.below hb.nw HQ.out.2.lt).at 3 (v := .slice p.na p.ns.length p.nc) rfl
    have HB := Lib.hid hb
    clear hb
    go_wp2_with fail
    obtain ⟨na, hna⟩ : ∃ na, na = p.na := ⟨_, rfl⟩
    rw [<- hna]
    have HNA := Lib.hid hna
    clear hna q3
    go_loopw [41] (fun s41 wr => ∃ k : Nat, k <= p.ns.length /\ s41 = .int .i64 k /\ BdM w x sb rb xb ⟨s.n + 1, buildA x.d yk p.ns s.a k, s.p.set yk pn⟩ wr) (fun s41 _ => p.ns.length - (intOf s41).toNat)
    case atStart => exact ⟨0, Nat.zero_le _, rfl, HB.out⟩
    case round =>
     obtain ⟨k, hk, rfl, hb⟩ := hrel
     clear HB
     by_cases hlt : k < p.ns.length
     ·have hkn : (k : Int) < p.ns.length := by omega
      have hk20 : (k : Int) < 20 := by omega
      obtain ⟨n, hn⟩ := get_of_lt hlt
      obtain ⟨av, hav⟩ := get_of_lt (l := s.a) (k := k) (by rw [HS.out.1.a]; omega)
      have hab := HS.out.2.1 av (List.mem_of_getElem? hav)
      have hnd := HPO.out.ns n (List.mem_of_getElem? hn)
      simp only [ndB, inB, Bool.and_eq_true, decide_eq_true_eq] at hnd
      have hw := wdB_parts (HPO.out.ws x (List.mem_of_getElem? HX.out))
      have hyr := HPO.out.years
      obtain ⟨r, hrr⟩ := get_of_lt (l := x.d.adds) (k := n.slope.toNat) (by have := hw.2.2.2.2.1; omega)
      have hbr := endR_bd (hi := false) (hw.2.2.2.2.2 r (List.mem_of_getElem? hrr))
      have hcast : ((n.slope.toNat : Nat) : Int) = n.slope := by omega
      have hadb := addsN_bd (x := x.d) (built := (yk : Int)) (year := n.year) hbr.1 hbr.2 hw.2.2.1.1
      have HAD : Hid (∀ W, newer wr W -> Calls Try.prog 68 #[wkV x, vi (yk : Int), vi n.slope, vi n.year, .func (.func 42) #[] #[]] W fun e w' => e = .returned (vi (addsN x.d yk n.year (endRW false r))) /\ newer W w') := Lib.hid fun W hW => by
       have h := adds_any false x (yk : Int) n.year n.slope.toNat r W hrr (((HQ.out.1.next hb.nw).next hW).ad x (List.mem_of_getElem? HX.out)) hw.2.2.1.1 hw.2.2.1.2 hbr.1 hbr.2 (by omega) (by omega) (by omega) (by omega)
       rw [hcast] at h
       exact h
      have hu : addU x.d yk n (iAt s.a k) = mnI n.due (av + addsN x.d yk n.year (endRW false r)) := by
       unfold addU
       rw [iAt_of hav, rAt_of hrr]
       rfl
      obtain ⟨ad, had⟩ : ∃ ad, ad = addsN x.d yk n.year (endRW false r) := ⟨_, rfl⟩
      rw [<- had] at HAD hu hadb
      obtain ⟨su, hsu⟩ : ∃ su, su = av + ad := ⟨_, rfl⟩
      rw [<- hsu] at hu
      obtain ⟨mi, hmi⟩ : ∃ mi, mi = mnI n.due su := ⟨_, rfl⟩
      rw [<- hmi] at hu
      have esu : IntKind.i64.wrap (av + ad) = su := by rw [<- hsu]; exact IntWalk.i64_in _ (by omega)
      have HMI := Lib.hid hmi
      have okk : SxOk ⟨s.n + 1, buildA x.d yk p.ns s.a k, s.p.set yk pn⟩ := ⟨by show (buildA _ _ _ _ _).length = 20; rw [buildA_len]; exact HS.out.1.a, by show (List.set _ _ _).length = 5; rw [List.length_set]; exact HS.out.1.p⟩
      have hav2 : (buildA x.d yk p.ns s.a k)[k]? = some av := by rw [buildA_far _ _ _ _ k k (Nat.le_refl _)]; exact hav
      have hnx : buildA x.d yk p.ns s.a (k + 1) = (buildA x.d yk p.ns s.a k).set k mi := by
       rw [<- hu]
       conv => lhs; unfold buildA
       rw [hn]
      have HK := Lib.hid (And.intro okk (And.intro (stC_a (s := ⟨s.n + 1, buildA x.d yk p.ns s.a k, s.p.set yk pn⟩) okk hav2) hnx))
      obtain ⟨b3, o3, e3, _, c0, c1, c2⟩ := row3W (HQ.out.1.next hb.nw).ns hn
      have e4 := HNA.out.trans e3
      clear e3 HNA
      subst e4
      have HB0 := Lib.hid hb
      clear hb hn hav hab hnd hw hyr hrr hbr hcast hadb had hsu hmi hu okk hav2 hnx
      go_upto_region 9 with fail
      refine genQ (fun X => newer wr X /\ Whole X wr.heap.size 79 #[vi n.slope, vi n.year, vi n.due]) ⟨newer_allocH _ _, Whole.made _ _ _⟩ ?_
      obtain ⟨nb, hnb⟩ : ∃ nb, nb = wr.heap.size := ⟨_, rfl⟩
      rw [<- hnb]
      clear hnb c0 c1 c2
      rintro wv ⟨hn, hwx⟩
      have y0 := hwx.at 0 (v := vi n.slope) rfl
      have y1 := hwx.at 1 (v := vi n.year) rfl
      have y2 := hwx.at 2 (v := vi n.due) rfl
      have hb := HB0.out.next hn
      have ca := hb.sx.at (1 + k) HK.out.2.1
      have d0 := hb.xx.at 0 (v := vi x.d.price) rfl
      have d1 := hb.xx.at 1 (v := vi x.d.first) rfl
      have d2 := hb.xx.at 2 (v := vi x.d.last) rfl
      have d3 := hb.xx.at 3 (v := vi x.d.age) rfl
      have d4 := hb.xx.at 4 (v := vi x.d.village) rfl
      have d5 := hb.xx.at 5 (v := .slice x.a x.d.adds.length x.cp) rfl
      have HB := Lib.hid (And.intro hn hb)
      clear hn hwx hb HB0
      refine wp_words (by kernel_rfl) (region_told 18 (by kernel_rfl) (by kernel_rfl) (fun W => Below wv.heap.size wv W) newer (pickD [vIs (.int .i64 k), vIs (.pointer (some ⟨nb, 2, none⟩)), vIs (vi n.due), vIs (.int .i64 k), vIs (.pointer (some ⟨sb, 1, none⟩)), vIs (.pointer (some ⟨sb, 1 + k, none⟩)), vIs (vi av), vIs (wkV x), vIs (vi (yk : Int)), vIs (.pointer (some ⟨nb, 0, none⟩)), vIs (vi n.slope), vIs (.pointer (some ⟨nb, 1, none⟩)), vIs (vi n.year), vIs (vi ad), vIs (vi su), vIs (vi mi), vIs (.pointer (some ⟨sb, 1, none⟩)), vIs (.pointer (some ⟨sb, 1 + k, none⟩))]) (fun h k => newer_trans h k) (pickD_stable _ ⟨vIs_st, vIs_st, vIs_st, vIs_st, vIs_st, vIs_st, vIs_st, vIs_st, vIs_st, vIs_st, vIs_st, vIs_st, vIs_st, vIs_st, vIs_st, vIs_st, vIs_st, vIs_st, trivial⟩) (Below.refl _ wv).drew (Below.refl _ _) ?_ ?_)
      ·refine ⟨?_, ?_, ?_, ?_, ?_, ?_, ?_, ?_, ?_, ?_, ?_, ?_, ?_, ?_, ?_, ?_, ?_, ?_, trivial⟩
       ·intro a W hG hR hO hp; have h8 := hO.slot 8 (by kernel_rfl); refine wp_yields (v := .int .i64 k) ?_ ⟨_, rfl, rfl, Below.refl _ _, hG⟩; simp [slotOf] at h8; simp [execOp, go_sem, h8]
       ·intro a W hG hR hO hp; have h9 := hO.slot 9 (by kernel_rfl); refine wp_yields (v := .pointer (some ⟨nb, 2, none⟩)) ?_ ⟨_, rfl, rfl, Below.refl _ _, hG⟩; simp [slotOf] at h9; simp [execOp, go_sem, h9]
       ·intro a W hG hR hO hp; have h47 : slotOf a 47 = .pointer (some ⟨nb, 2, none⟩) := hp.1; have c0 := keep_cell y2 hG; refine wp_yields (v := vi n.due) ?_ ⟨_, rfl, rfl, Below.refl _ _, hG⟩; simp [slotOf] at h47; simp [execOp, go_sem, h47, c0]
       ·intro a W hG hR hO hp; have h8 := hO.slot 8 (by kernel_rfl); refine wp_yields (v := .int .i64 k) ?_ ⟨_, rfl, rfl, Below.refl _ _, hG⟩; simp [slotOf] at h8; simp [execOp, go_sem, h8]
       ·intro a W hG hR hO hp; have h4 := hO.slot 4 (by kernel_rfl); refine wp_yields (v := .pointer (some ⟨sb, 1, none⟩)) ?_ ⟨_, rfl, rfl, Below.refl _ _, hG⟩; simp [slotOf] at h4; simp [execOp, go_sem, h4]
       ·intro a W hG hR hO hp; have h50 : slotOf a 50 = .pointer (some ⟨sb, 1, none⟩) := hp.1; have h49 : slotOf a 49 = .int .i64 k := hp.2.1; refine wp_yields (v := .pointer (some ⟨sb, 1 + k, none⟩)) ?_ ⟨_, rfl, rfl, Below.refl _ _, hG⟩; simp [slotOf] at h50 h49; simp [execOp, go_sem, h50, h49, hk20]
       ·intro a W hG hR hO hp; have h51 : slotOf a 51 = .pointer (some ⟨sb, 1 + k, none⟩) := hp.1; have c0 := keep_cell ca hG; refine wp_yields (v := vi av) ?_ ⟨_, rfl, rfl, Below.refl _ _, hG⟩; simp [slotOf] at h51; simp [execOp, go_sem, h51, c0]
       ·intro a W hG hR hO hp; have h7 := hO.slot 7 (by kernel_rfl); have c0 := keep_cell d0 hG; have c1 := keep_cell d1 hG; have c2 := keep_cell d2 hG; have c3 := keep_cell d3 hG; have c4 := keep_cell d4 hG; have c5 := keep_cell d5 hG; refine wp_yields (v := wkV x) ?_ ⟨_, rfl, rfl, Below.refl _ _, hG⟩; simp [slotOf] at h7; simp [execOp, go_sem, h7, c0, c1, c2, c3, c4, c5]
       ·intro a W hG hR hO hp; have h2 := hO.slot 2 (by kernel_rfl); refine wp_yields (v := vi (yk : Int)) ?_ ⟨_, rfl, rfl, Below.refl _ _, hG⟩; simp [slotOf] at h2; simp [execOp, go_sem, h2]
       ·intro a W hG hR hO hp; have h9 := hO.slot 9 (by kernel_rfl); refine wp_yields (v := .pointer (some ⟨nb, 0, none⟩)) ?_ ⟨_, rfl, rfl, Below.refl _ _, hG⟩; simp [slotOf] at h9; simp [execOp, go_sem, h9]
       ·intro a W hG hR hO hp; have h55 : slotOf a 55 = .pointer (some ⟨nb, 0, none⟩) := hp.1; have c0 := keep_cell y0 hG; refine wp_yields (v := vi n.slope) ?_ ⟨_, rfl, rfl, Below.refl _ _, hG⟩; simp [slotOf] at h55; simp [execOp, go_sem, h55, c0]
       ·intro a W hG hR hO hp; have h9 := hO.slot 9 (by kernel_rfl); refine wp_yields (v := .pointer (some ⟨nb, 1, none⟩)) ?_ ⟨_, rfl, rfl, Below.refl _ _, hG⟩; simp [slotOf] at h9; simp [execOp, go_sem, h9]
       ·intro a W hG hR hO hp; have h57 : slotOf a 57 = .pointer (some ⟨nb, 1, none⟩) := hp.1; have c0 := keep_cell y1 hG; refine wp_yields (v := vi n.year) ?_ ⟨_, rfl, rfl, Below.refl _ _, hG⟩; simp [slotOf] at h57; simp [execOp, go_sem, h57, c0]
       ·intro a W hG hR hO hp
        have h53 : slotOf a 53 = wkV x := hp.1
        have h54 : slotOf a 54 = vi (yk : Int) := hp.2.1
        have h56 : slotOf a 56 = vi n.slope := hp.2.2.1
        have h58 : slotOf a 58 = vi n.year := hp.2.2.2.1
        refine wp_enters (f := 68) (args := #[wkV x, vi (yk : Int), vi n.slope, vi n.year, .func (.func 42) #[] #[]]) ?_ ((HAD.out W (newer_trans HB.out.1 hG)).mono ?_)
        ·simp [slotOf] at h53 h54 h56 h58
         simp [go_sem, h53, h54, h56, h58]
        ·rintro e w' ⟨rfl, hb⟩
         exact ⟨_, rfl, _, rfl, rfl, hb, below_next hG hb⟩
       ·intro a W hG hR hO hp; have h52 : slotOf a 52 = vi av := hp.1; have h59 : slotOf a 59 = vi ad := hp.2.1; refine wp_yields (v := vi su) ?_ ⟨_, rfl, rfl, Below.refl _ _, hG⟩; simp [slotOf] at h52 h59; simp [execOp, go_sem, h52, h59, esu]
       ·intro a W hG hR hO hp; have h48 : slotOf a 48 = vi n.due := hp.1; have h60 : slotOf a 60 = vi su := hp.2.1; refine wp_yields (v := vi mi) ?_ ⟨_, rfl, rfl, Below.refl _ _, hG⟩; simp [slotOf] at h48 h60; simp [go_sem, h48, h60, HMI.out, mnI]
       ·intro a W hG hR hO hp; have h4 := hO.slot 4 (by kernel_rfl); refine wp_yields (v := .pointer (some ⟨sb, 1, none⟩)) ?_ ⟨_, rfl, rfl, Below.refl _ _, hG⟩; simp [slotOf] at h4; simp [execOp, go_sem, h4]
       ·intro a W hG hR hO hp; have h62 : slotOf a 62 = .pointer (some ⟨sb, 1, none⟩) := hp.1; have h46 : slotOf a 46 = .int .i64 k := hp.2.1; refine wp_yields (v := .pointer (some ⟨sb, 1 + k, none⟩)) ?_ ⟨_, rfl, rfl, Below.refl _ _, hG⟩; simp [slotOf] at h62 h46; simp [execOp, go_sem, h62, h46, hk20]
      ·intro W hG hR
       rintro _ rfl _ rfl _ rfl _ rfl _ rfl _ rfl _ rfl _ rfl _ rfl _ rfl _ rfl _ rfl _ rfl _ rfl _ rfl _ rfl _ rfl _ rfl
       change wpList _ _ _ _ _ _
       simp only [Act.put, List.setIfInBounds_toArray, List.set_cons_zero, List.set_cons_succ, List.drop_succ_cons, List.drop_zero]
       have hb := HB.out.2.next hG
       have cs := hb.sx.at (1 + k) HK.out.2.1
       have fs := hb.sx.free (1 + k)
       have HC := Lib.hid hb
       clear hG hR hb HB y0 y1 y2 ca d0 d1 d2 d3 d4 d5
       go_upto_region 10 with fail
       refine genQ (BdM w x sb rb xb ⟨s.n + 1, buildA x.d yk p.ns s.a (k + 1), s.p.set yk pn⟩) (HC.out.turn (1 + k) _ HSZ.out.1 HSZ.out.2.2.2.1 HSZ.out.2.2.2.2.1 (by rw [stC_set_a HK.out.1 (by omega), HK.out.2.2])) ?_
       clear HC cs fs esu
       intro wx hb
       go_wp2_with fail
       go_roundw
       case rel => exact ⟨k + 1, by omega, by go_num, hb⟩
       case measure => simp [intOf]; omega
     ·obtain rfl : k = p.ns.length := by omega
      have hkn : ¬ ((p.ns.length : Int) < p.ns.length) := by omega
      obtain ⟨s2, hs2⟩ : ∃ s2 : Sx, s2 = ⟨s.n + 1, buildA x.d yk p.ns s.a p.ns.length, s.p.set yk pn⟩ := ⟨_, rfl⟩
      have HBS : Hid (buildS x.d p.ns s yk = s2) := Lib.hid (by
       unfold buildS
       rw [if_neg HY1.out, hs2, HP.out.2.1, Int.toNat_natCast, iAt_of HP.out.1])
      rw [<- hs2] at hb
      clear hs2
      have HE := Lib.hid hb
      clear hb
      go_wp2_with (first | (refine wpList_load_s (s := s2) rfl (.tmp 4) rfl sb rfl HE.out.sx ?_) | (refine wpList_store_s (s := s2) rfl (.tmp 6) (.tmp 65) rfl rb rfl rfl HE.out.rx rfl ?_))
      exact bodyPost_ret (v := .agg (stC s2)) (results_cell_row (fn := Try.f63) Try.results63 _ _ rb 137 (stC s2) (0, 0) _ rfl (HE.out.rx.setRow (stC s2)) Try.underlying137 rfl (by rw [Try.info123s]; rfl)) rfl ⟨by rw [HBS.out], below_setRow HE.out.nw HSZ.out.2.1 _⟩
end

section
section
variable {S Y : Type}
structure Srch (S Y : Type) where
 rem : S -> Nat
 kids : S -> List Y
 build : S -> Y -> S
 cost : S -> Int
 cut : S -> Bool
 enough : S -> Bool
structure SrchOk (X : Srch S Y) : Prop where
 less : ∀ s y, 0 < X.rem s -> X.rem (X.build s y) + 1 = X.rem s
 dear : ∀ s y, X.cost s <= X.cost (X.build s y)
 cut : ∀ s y, X.cut s = true -> X.cut (X.build s y) = true
def ends (X : Srch S Y) : Nat -> S -> List (List Y × S)
 | 0, s => [([], s)]
 | r + 1, s => (X.kids s).flatMap fun y => (ends X r (X.build s y)).map fun p => (y :: p.1, p.2)
def imp (first : Bool) (b : Option (List Y × Int)) (x : Int) : Bool := match b with
 | none => true
 | some p => !first && decide (x < p.2)
def stepEW (X : Srch S Y) (first : Bool) (l : List Y) (b : Option (List Y × Int)) (p : List Y × S) : Option (List Y × Int) :=
 if (!X.cut p.2 && X.enough p.2) && imp first b (X.cost p.2) then some (l ++ p.1, X.cost p.2) else b
def tryP [DecidableEq S] (X : Srch S Y) (first : Bool) : Nat -> S -> List Y -> List S × Option (List Y × Int) -> List S × Option (List Y × Int)
 | r, s, l, st =>
  if !imp first st.2 (X.cost s) || decide (s ∈ st.1) || X.cut s then st
  else match r with
   | 0 => (s :: st.1, if X.enough s then some (l, X.cost s) else st.2)
   | r + 1 => (X.kids s).foldl (fun st y => tryP X first r (X.build s y) (l ++ [y]) st) (s :: st.1, st.2)
def settled (X : Srch S Y) (first : Bool) (s : S) (b : Option (List Y × Int)) : Prop :=
 ∀ p ∈ ends X (X.rem s) s, (!X.cut p.2 && X.enough p.2) = true -> imp first b (X.cost p.2) = false
def Inv (X : Srch S Y) (first : Bool) (r : Nat) (M : List S) (b : Option (List Y × Int)) : Prop := ∀ s ∈ M, X.rem s <= r -> settled X first s b
variable {X : Srch S Y} {first : Bool}
theorem ends_cost (ok : SrchOk X) : ∀ (r : Nat) (s : S) (p : List Y × S), p ∈ ends X r s -> X.cost s <= X.cost p.2
 | 0, s, p, h => by
  simp only [ends, List.mem_singleton] at h
  subst h
  exact Int.le_refl _
 | r + 1, s, p, h => by
  simp only [ends, List.mem_flatMap, List.mem_map] at h
  obtain ⟨y, _, q, hq, rfl⟩ := h
  have h1 := ok.dear s y
  have h2 := ends_cost ok r (X.build s y) q hq
  exact Int.le_trans h1 h2
theorem ends_cut (ok : SrchOk X) : ∀ (r : Nat) (s : S) (p : List Y × S), X.cut s = true -> p ∈ ends X r s -> X.cut p.2 = true
 | 0, s, p, hc, h => by
  simp only [ends, List.mem_singleton] at h
  subst h
  exact hc
 | r + 1, s, p, hc, h => by
  simp only [ends, List.mem_flatMap, List.mem_map] at h
  obtain ⟨y, _, q, hq, rfl⟩ := h
  exact ends_cut ok r (X.build s y) q (ok.cut s y hc) hq
theorem imp_less {b : Option (List Y × Int)} {x y : Int} (h : imp first b x = false) (hxy : x <= y) : imp first b y = false := by
 cases b with
 | none => simp [imp] at h
 | some p =>
  cases first
  ·simp only [imp, Bool.not_false, Bool.true_and, decide_eq_false_iff_not] at h ⊢
   omega
  ·rfl
theorem step_imp {l : List Y} {b : Option (List Y × Int)} {p : List Y × S} {x : Int} (h : imp first b x = false) : imp first (stepEW X first l b p) x = false := by
 unfold stepEW
 split
 ·rename_i hc
  simp only [Bool.and_eq_true] at hc
  cases b with
  | none => simp [imp] at h
  | some q =>
   cases first
   ·have h2 := hc.2
    simp only [imp, Bool.not_false, Bool.true_and, decide_eq_false_iff_not, decide_eq_true_eq] at h h2 ⊢
    omega
   ·rfl
 ·exact h
theorem fold_imp {l : List Y} {x : Int} : ∀ (L : List (List Y × S)) (b : Option (List Y × Int)), imp first b x = false -> imp first (L.foldl (stepEW X first l) b) x = false
 | [], _, h => h
 | _ :: L, _, h => fold_imp L _ (step_imp h)
theorem step_self {l : List Y} {b : Option (List Y × Int)} {p : List Y × S} (h : (!X.cut p.2 && X.enough p.2) = true) : imp first (stepEW X first l b p) (X.cost p.2) = false := by
 unfold stepEW
 cases hi : imp first b (X.cost p.2) with
 | true =>
  rw [h]
  simp [imp]
 | false =>
  rw [Bool.and_false]
  exact hi
theorem fold_all {l : List Y} : ∀ (L : List (List Y × S)) (b : Option (List Y × Int)) (p : List Y × S), p ∈ L -> (!X.cut p.2 && X.enough p.2) = true -> imp first (L.foldl (stepEW X first l) b) (X.cost p.2) = false
 | _ :: L, _, p, hp, h => by
  rcases List.mem_cons.1 hp with rfl | hp
  ·exact fold_imp L _ (step_self h)
  ·exact fold_all L _ p hp h
theorem fold_same {l : List Y} : ∀ (L : List (List Y × S)) (b : Option (List Y × Int)), (∀ p ∈ L, (!X.cut p.2 && X.enough p.2) = true -> imp first b (X.cost p.2) = false) -> L.foldl (stepEW X first l) b = b
 | [], _, _ => rfl
 | p :: L, b, h => by
  have hp : stepEW X first l b p = b := by
   unfold stepEW
   cases hc : (!X.cut p.2 && X.enough p.2) with
   | false => simp
   | true => rw [h p (by simp) hc]; simp
  rw [List.foldl_cons, hp]
  exact fold_same L b fun q hq => h q (List.mem_cons_of_mem _ hq)
theorem fold_move (l : List Y) (y : Y) : ∀ (L : List (List Y × S)) (b : Option (List Y × Int)), (L.map fun p => (y :: p.1, p.2)).foldl (stepEW X first l) b = L.foldl (stepEW X first (l ++ [y])) b
 | [], _ => rfl
 | p :: L, b => by
  rw [List.map_cons, List.foldl_cons, List.foldl_cons, <- fold_move l y L]
  congr 1
  simp [stepEW]
theorem tryP_is [DecidableEq S] (ok : SrchOk X) : ∀ (r : Nat) (s : S) (l : List Y) (M : List S) (b : Option (List Y × Int)), X.rem s = r -> Inv X first r M b ->
  (tryP X first r s l (M, b)).2 = (ends X r s).foldl (stepEW X first l) b /\ Inv X first r (tryP X first r s l (M, b)).1 (tryP X first r s l (M, b)).2 /\ (∀ x ∈ (tryP X first r s l (M, b)).1, x ∈ M ∨ X.rem x <= r) := by
 intro r
 induction r with
 | zero =>
  intro s l M b hr hI
  unfold tryP
  by_cases hp : (!imp first b (X.cost s) || decide (s ∈ M) || X.cut s) = true
  ·rw [if_pos hp]
   refine ⟨(fold_same _ _ fun p hpm hok => ?_).symm, hI, fun x hx => .inl hx⟩
   simp only [Bool.or_eq_true, Bool.not_eq_true', decide_eq_true_eq] at hp
   rcases hp with (h | h) | h
   ·exact imp_less h (ends_cost ok 0 s p hpm)
   ·exact hI s h (by omega) p (by rw [hr]; exact hpm) hok
   ·have := ends_cut ok 0 s p h hpm
    rw [this] at hok
    simp at hok
  ·rw [if_neg hp]
   simp only [Bool.or_eq_true, Bool.not_eq_true', decide_eq_true_eq, not_or] at hp
   obtain ⟨⟨h1, h2⟩, h3⟩ := hp
   have h1 : imp first b (X.cost s) = true := by simpa using h1
   have h3 : X.cut s = false := by simpa using h3
   have hf : (if X.enough s then some (l, X.cost s) else b) = (ends X 0 s).foldl (stepEW X first l) b := by
    simp only [ends, List.foldl_cons, List.foldl_nil, stepEW, h1, h3, Bool.not_false, Bool.true_and, Bool.and_true, List.append_nil]
   refine ⟨hf, ?_, fun x hx => ?_⟩
   ·intro x hx hxr p hpm hok
    dsimp only
    rw [hf]
    rcases List.mem_cons.1 hx with rfl | hx
    ·rw [hr] at hpm
     exact fold_all _ _ p hpm hok
    ·exact fold_imp _ _ (hI x hx hxr p hpm hok)
   ·rcases List.mem_cons.1 hx with rfl | hx
    ·exact .inr (by omega)
    ·exact .inl hx
 | succ r ih =>
  intro s l M b hr hI
  unfold tryP
  by_cases hp : (!imp first b (X.cost s) || decide (s ∈ M) || X.cut s) = true
  ·rw [if_pos hp]
   refine ⟨(fold_same _ _ fun p hpm hok => ?_).symm, hI, fun x hx => .inl hx⟩
   simp only [Bool.or_eq_true, Bool.not_eq_true', decide_eq_true_eq] at hp
   rcases hp with (h | h) | h
   ·exact imp_less h (ends_cost ok (r + 1) s p hpm)
   ·exact hI s h (by omega) p (by rw [hr]; exact hpm) hok
   ·have := ends_cut ok (r + 1) s p h hpm
    rw [this] at hok
    simp at hok
  ·rw [if_neg hp]
   dsimp only
   have key : ∀ (ys : List Y) (M' : List S) (b' : Option (List Y × Int)), Inv X first r M' b' ->
     (ys.foldl (fun st y => tryP X first r (X.build s y) (l ++ [y]) st) (M', b')).2 = (ys.flatMap fun y => (ends X r (X.build s y)).map fun p => (y :: p.1, p.2)).foldl (stepEW X first l) b' /\
     Inv X first r (ys.foldl (fun st y => tryP X first r (X.build s y) (l ++ [y]) st) (M', b')).1 (ys.foldl (fun st y => tryP X first r (X.build s y) (l ++ [y]) st) (M', b')).2 /\
     (∀ x ∈ (ys.foldl (fun st y => tryP X first r (X.build s y) (l ++ [y]) st) (M', b')).1, x ∈ M' ∨ X.rem x <= r) := by
    intro ys
    induction ys with
    | nil => intro M' b' h; exact ⟨rfl, h, fun x hx => .inl hx⟩
    | cons y ys ihy =>
     intro M' b' h
     have hl := ok.less s y (by omega)
     obtain ⟨a1, a2, a3⟩ := ih (X.build s y) (l ++ [y]) M' b' (by omega) h
     obtain ⟨c1, c2, c3⟩ := ihy (tryP X first r (X.build s y) (l ++ [y]) (M', b')).1 (tryP X first r (X.build s y) (l ++ [y]) (M', b')).2 a2
     simp only [List.foldl_cons, List.flatMap_cons, List.foldl_append]
     refine ⟨?_, c2, fun x hx => ?_⟩
     ·rw [fold_move, <- a1]
      exact c1
     ·rcases c3 x hx with hx | hx
      ·exact a3 x hx
      ·exact .inr hx
   have hI1 : Inv X first r (s :: M) b := fun x hx hxr => by
    rcases List.mem_cons.1 hx with rfl | hx
    ·omega
    ·exact hI x hx (by omega)
   obtain ⟨k1, k2, k3⟩ := key (X.kids s) (s :: M) b hI1
   refine ⟨k1, fun x hx hxr p hpm hok => ?_, fun x hx => ?_⟩
   ·rcases Nat.lt_or_ge r (X.rem x) with hlt | hge
    ·rw [k1]
     rcases k3 x hx with h | h
     ·rcases List.mem_cons.1 h with rfl | h
      ·rw [hr] at hpm
       exact fold_all _ _ p hpm hok
      ·exact fold_imp _ _ (hI x h hxr p hpm hok)
     ·omega
    ·exact k2 x hx hge p hpm hok
   ·rcases k3 x hx with h | h
    ·rcases List.mem_cons.1 h with rfl | h
     ·exact .inr (by omega)
     ·exact .inl h
    ·exact .inr (by omega)
end
end

section
section
open Go.RowKit
variable {P : Program}
end
section
open Go.RowKit Go.Deep Go.WideShapes Go.ChangeShapes Go.ChangeAt
def inI (n : Int) : Prop := 0 <= n /\ n <= 1000000000000
theorem lits_int (d : Nat) {n : Int} (h : inI n) : Try.prog.keyLits (d + 1) 3 [vi n] = some [.int .i64 n] := by
 unfold Program.keyLits
 rw [Try.underlying3]
 have hw : (Lit.int .i64 n).wf = true := by
  unfold inI at h
  simp only [Lit.wf, Bool.and_eq_true, decide_eq_true_eq]
  exact ⟨Int.le_trans (by decide) h.1, Int.le_trans h.2 (by decide)⟩
 dsimp only
 rw [if_pos ⟨rfl, hw⟩]
theorem cells3 : Try.prog.cellsOf 3 = 1 := by kernel_rfl
theorem lits_arr (d t n : Nat) (hu : Try.prog.underlying t = some (.array n 3)) (hc : Try.prog.cellsOf t = n) (l : List Int) (hl : l.length = n) (hb : ∀ x ∈ l, inI x) : Try.prog.keyLits (d + 2) t (l.map vi) = some (l.map (Lit.int .i64)) := by
 have e0 : Try.prog.keyLits (d + 2) t (l.map vi) = if (l.map vi).length = Try.prog.cellsOf t then ((List.range n).mapM fun i => Try.prog.keyLits (d + 1) 3 (((l.map vi).drop (i * Try.prog.cellsOf 3)).take (Try.prog.cellsOf 3))).map List.flatten else none := by
  conv => lhs; unfold Program.keyLits
  rw [hu]
 rw [e0]
 have h1 : ((List.range n).mapM fun i => Try.prog.keyLits (d + 1) 3 (((l.map vi).drop (i * Try.prog.cellsOf 3)).take (Try.prog.cellsOf 3))) = some ((List.range n).map fun i => [Lit.int .i64 (iAt l i)]) := by
  refine mapM_some' fun i hi => ?_
  have hi' := List.mem_range.1 hi
  obtain ⟨x, hx⟩ := get_of_lt (l := l) (k := i) (by omega)
  rw [cells3, Nat.mul_one]
  have e : ((l.map vi).drop i).take 1 = [vi x] := by
   rw [List.drop_eq_getElem_cons (by simp; omega)]
   simp only [List.take_succ_cons, List.take_zero, List.getElem_map]
   rw [List.getElem?_eq_getElem (by omega)] at hx
   cases hx
   rfl
  rw [e, iAt_of hx]
  exact lits_int d (hb x (List.mem_of_getElem? hx))
 have h2 := flat_one (Lit.int .i64) l n hl
 rw [if_pos (by rw [hc]; simp [hl]), h1, Option.map_some, h2]
theorem cells121 : Try.prog.cellsOf 134 = 20 := by kernel_rfl
theorem cells109 : Try.prog.cellsOf 135 = 5 := by kernel_rfl
theorem cells123 : Try.prog.cellsOf 137 = 26 := by kernel_rfl
def SxIn (s : Sx) : Prop := SxOk s /\ inI (s.n : Int) /\ (∀ x ∈ s.a, inI x) /\ ∀ x ∈ s.p, inI x
abbrev SxK := {s : Sx // SxIn s}
abbrev ekS (s : SxK) : Value := .agg (stC s.1)
theorem lits_cs (d n : Nat) (a p : List Int) (ha : a.length = 20) (hp : p.length = 5) (h1 : inI (n : Int)) (h2 : ∀ x ∈ a, inI x) (h3 : ∀ x ∈ p, inI x) :
  Try.prog.keyLits (d + 3) 137 (vi (n : Int) :: (a ++ p).map vi) = some ([Lit.int .i64 n] ++ (a.map (Lit.int .i64) ++ p.map (Lit.int .i64))) := by
 have e1 := lits_int (d + 1) h1
 have e2 := lits_arr d 134 20 Try.underlying134 cells121 a ha h2
 have e3 := lits_arr d 135 5 Try.underlying135 cells109 p hp h3
 have d1 : ((vi (n : Int) :: (a ++ p).map vi).drop 0).take 1 = [vi (n : Int)] := rfl
 have d2 : ((vi (n : Int) :: (a ++ p).map vi).drop 1).take 20 = a.map vi := by
  rw [List.drop_succ_cons, List.drop_zero, List.map_append, List.take_append_of_le_length (by simp [ha]), List.take_of_length_le (by simp [ha])]
 have d3 : ((vi (n : Int) :: (a ++ p).map vi).drop 21).take 5 = p.map vi := by
  rw [List.drop_succ_cons, List.map_append, List.drop_append_of_le_length (by simp [ha]), List.drop_of_length_le (by simp [ha]), List.nil_append, List.take_of_length_le (by simp [hp])]
 have hl : (vi (n : Int) :: (a ++ p).map vi).length = 26 := by simp [ha, hp]
 generalize vi (n : Int) :: (a ++ p).map vi = cs at d1 d2 d3 hl
 conv => lhs; unfold Program.keyLits
 rw [Try.underlying137]
 dsimp only
 rw [if_pos ⟨by rw [hl, cells123], by simp⟩]
 simp only [List.mapM_cons, List.mapM_nil, cells3, cells121, cells109, d1, d2, d3, e1, e2, e3, Option.bind_eq_bind, Option.bind_some, Option.pure_def, Option.map_some, List.flatten_cons, List.flatten_nil, List.append_nil]
theorem lits_st (d : Nat) (s : SxK) : Try.prog.keyLits (d + 3) 137 (stC s.1).toList = some ([Lit.int .i64 s.1.n] ++ (s.1.a.map (Lit.int .i64) ++ s.1.p.map (Lit.int .i64))) := by
 have h := lits_cs d s.1.n s.1.a s.1.p s.2.1.a s.2.1.p s.2.2.1 s.2.2.2.1 s.2.2.2.2
 rw [<- stC_list s.2.1] at h
 exact h
theorem type123 : Try.prog.keyType 137 = true := by kernel_rfl
theorem typeAt123 : Try.prog.keyTypeAt 3 137 = true := by kernel_rfl
theorem formed123 (s : Sx) : (Value.agg (stC s)).formed Try.prog 137 = true := by
 simp only [Value.formed, Try.underlying137, cells123]
 rfl
theorem types_two : Nat.ble 2 Try.prog.types.size = true := by kernel_rfl
theorem types_sz : ∃ d, Try.prog.types.size + 1 = d + 3 := ⟨Try.prog.types.size - 2, by have := Nat.le_of_ble_eq_true types_two; omega⟩
theorem key123 (s : SxK) : ∃ L, keyOf Try.prog 137 (ekS s) = some (.string (keyBytes L)) /\ Try.prog.keyLits (Try.prog.types.size + 1) 137 (stC s.1).toList = some L := by
 obtain ⟨d, hd⟩ := types_sz
 refine ⟨_, ?_, by rw [hd]; exact lits_st d s⟩
 unfold keyOf
 rw [Try.underlying137]
 dsimp only
 rw [type123, formed123, hd]
 simp only [Bool.and_self, if_true]
 have h : Try.prog.keyLits (d + 3) 137 (Value.agg (stC s.1)).cells.toList = _ := lits_st d s
 rw [h]
 rfl
theorem key_eq (a b : SxK) (W : World) : (Op.equal 137 (ekS a) (ekS b)).run Try.prog W = .ok (decide (a = b)) W := by
 obtain ⟨L, h1, k1⟩ := key123 a
 obtain ⟨M, h2, k2⟩ := key123 b
 obtain ⟨r, hr, hiff⟩ := run_equal_deep W (m := 3) (show 3 <= 10000 by omega) typeAt123 (by rw [Try.underlying137]) h1 h2
 suffices hh : r = decide (a = b) by
  rw [<- hh]
  exact hr
 rw [Bool.eq_iff_iff, hiff, decide_eq_true_eq]
 constructor
 ·intro e
  have e1 : keyBytes L = keyBytes M := by simpa using e
  have e2 := keyLits_inj k1 k2 e1
  obtain ⟨d, hd⟩ := types_sz
  rw [hd, lits_st] at k1 k2
  have e3 := (Option.some.inj k1).trans (e2.trans (Option.some.inj k2).symm)
  obtain ⟨⟨n, x, y⟩, ha⟩ := a
  obtain ⟨⟨m, z, u⟩, hb⟩ := b
  have hi : ∀ p q : Int, Lit.int .i64 p = Lit.int .i64 q -> p = q := fun p q e => by cases e; rfl
  simp only [List.cons_append, List.nil_append, List.cons.injEq] at e3
  have e4 := List.append_inj e3.2 (by simp [ha.1.a, hb.1.a])
  have e5 := List.map_inj_right (f := Lit.int .i64) hi |>.1 e4.1
  have e6 := List.map_inj_right (f := Lit.int .i64) hi |>.1 e4.2
  have e7 := hi _ _ e3.1
  have e8 : n = m := by omega
  subst e5 e6 e8
  rfl
 ·rintro rfl
  rw [h1] at h2
  exact Option.some.inj h2
theorem key_check (c : Bool) (a : SxK) (W : World) : (Instr.checkKey c 10000 137 (ekS a)).run Try.prog W = .ok () W :=
 run_checkKey_deep c 9997 3 137 typeAt123 W 3 _ _ (formed123 a.1) (lits_st 0 a)
theorem key_bits (a : SxK) : Instr.sameBits 10000 (ekS a) (ekS a) = true := by
 have h := stC_list a.2.1
 have h2 : ∀ c : Array Value, c.toList = vi (a.1.n : Int) :: (a.1.a ++ a.1.p).map vi -> ∀ m, Instr.sameBits (m + 1) (.agg c) (.agg c) = true := by
  intro c hc m
  simp only [Instr.sameBits, beq_self_eq_true, Bool.true_and, hc]
  exact bits_all m (a.1.n :: (a.1.a ++ a.1.p))
 exact h2 _ h 9999
theorem st_key : EqKey Try.prog 137 ekS := ⟨key_eq, key_check, key_bits, _, Try.underlying137⟩
end
end

section
open Go.RowKit Go.Shelf Go.Deep
set_option maxRecDepth 100000 in
set_option maxHeartbeats 2000000 in
theorem clone_any (l : List Int) (A : Option Addr) (cp base : Nat) (w : World) (hl : l.length <= 1000) (ho : w.ownsRow base 3 1 (.slice A l.length cp) l.length (l.map vi)) (h0 : l = [] -> A = none) :
  Calls Try.prog 62 #[.slice A l.length cp] w fun e w' => ∃ B c, e = .returned (.slice B l.length c) /\ w'.ownsRow w.heap.size 3 1 (.slice B l.length c) l.length (l.map vi) /\ newer w w' /\ (l = [] -> B = none) := by
 have hnil : ∀ (W : World) (A : Option Addr) (n c : Nat), (binOp .eql 26 (.slice A n c) (.slice none 0 0)).run Try.prog W = .ok (.bool A.isNone) W := fun W A n c => by
  simp only [binOp]
  simp [run_equal_slice_nil W 26 3 A n c Try.underlying26]
 by_cases hn : l = []
 ·subst hn
  rw [h0 rfl]
  go_enter Try.func62, Try.ntmps62
  go_wp2_with fail
  go_ret
  exact ⟨none, 0, rfl, ⟨rfl, .inl ⟨rfl, rfl⟩⟩, Below.refl _ _, by simp⟩
 ·have hpos : 0 < l.length := List.length_pos_iff.2 hn
  obtain ⟨g, cap, hv, _, hg⟩ := ho.form hpos
  injection hv with hA _ hc
  subst hA
  clear hc cap
  have hcell : ∀ (o : Obj) (j : Nat) (u : Value), (l.map vi)[j]? = some u -> (w.alloc o).cell? ((⟨g, 0, none⟩ : Addr).add j) = some u := by
   intro o j u hu
   have hj : j < l.length := by have := (List.getElem?_eq_some_iff.1 hu).1; simpa using this
   rw [add_row, Nat.zero_add]
   have := ho.cellAt j (by omega)
   rw [cell_alloc (v := u) (by rw [this]; exact hu) o]
  have HC := Lib.hid hcell
  have HB := Lib.hid (newer_allocH w (.cells #[] 3))
  obtain ⟨i0, hi0, hz0, hz1, hz2⟩ := info_parts Try.info3w
  have HI := Lib.hid (And.intro hi0 (And.intro hz0 (And.intro hz1 hz2)))
  have HN := Lib.hid hn
  have HP := Lib.hid hpos
  clear hcell hi0 hz0 hz1 hz2 hn ho h0 hpos
  go_enter Try.func62, Try.ntmps62
  go_wp2_with (at_builtin; go_loud ((refine wpList_plain rfl fun _ hK => wp_append_new (.tmp 5) (.tmp 6) 26 rfl 3 i0 (.int .i64 0) 1 8 Try.underlying26 HI.out.1 HI.out.2.1 HI.out.2.2.1 HI.out.2.2.2 rfl (by omega) ⟨w.heap.size, 0, none⟩ rfl ⟨g, 0, none⟩ l.length cp (l.map vi) rfl (by simp) (HC.out _) HP.out (by unfold maxLen; omega) (by omega) fun gg cp' w' hown hbl => hK _ _ ?_); have HE := Lib.hid (And.intro (own_more hown (by simp) : w'.ownsRow w.heap.size 3 1 (.slice (some ⟨gg, 0, none⟩) l.length cp') l.length (l.map vi)) (HB.out.trans (hbl.mono (by simp)))); clear hown hbl))
  go_ret
  exact ⟨_, _, rfl, HE.out.1, HE.out.2, fun e => absurd e HN.out⟩
set_option maxHeartbeats 400000 in
theorem years_any (x : Wk) (w : World) :
  Calls Try.prog 64 #[wkV x] w fun e w' => e = .returned (.func (.func 91) #[] #[.pointer (some ⟨w.heap.size, 0, none⟩)]) /\ w.alloc (.cells (wkC x) 78) = w' := by
 go_enter Try.func64, Try.ntmps64
 go_wp2
 go_ret
 exact ⟨rfl, rfl⟩
def yearsN (x : Wd) : Nat := (x.last + 1 - x.first).toNat
attribute [local go_sem] Oper.semAt_some
set_option maxRecDepth 100000 in
set_option maxHeartbeats 2000000 in
theorem years_in (n l c : Nat) (x : Wk) (h0 : 0 <= x.d.first) (h1 : x.d.first <= x.d.last) (h2 : x.d.last <= 1000) (J : Nat -> World -> Prop)
  (hJ : ∀ k W, J k W -> Whole W c 78 (wkC x))
  (hY : ∀ k W, k < yearsN x.d -> J k W -> YieldAt Fence.wide (n - 1) Try.prog l #[vi (x.d.first + k)] W fun e W'' => e = .returned (.bool true) /\ J (k + 1) W'')
  (W : World) (hW : J 0 W) :
  CallsIn Fence.wide n Try.prog 91 #[.func (.yield l) #[] #[], .pointer (some ⟨c, 0, none⟩)] W fun e W' => (∃ v, e = .returned v) /\ J (yearsN x.d) W' := by
 have HJ := Lib.hid hJ
 have HY := Lib.hid hY
 have hc := hJ 0 W hW
 have c1 := hc.at 1 (v := vi x.d.first) rfl
 have hyn : (yearsN x.d : Int) = x.d.last + 1 - x.d.first := by unfold yearsN; omega
 have HYN := Lib.hid hyn
 obtain ⟨m, hm⟩ : ∃ m, m = yearsN x.d := ⟨_, rfl⟩
 rw [<- hm] at hyn
 obtain ⟨f, hf⟩ : ∃ f, f = x.d.first := ⟨_, rfl⟩
 obtain ⟨t, ht⟩ : ∃ t, t = x.d.last := ⟨_, rfl⟩
 rw [<- hf] at c1 hyn h0 h1
 rw [<- ht] at hyn h1 h2
 have HM := Lib.hid (And.intro hm (And.intro hf ht))
 clear hJ hY hc hm hf ht
 refine callsIn_of_wp Try.func91 rfl trivial ?_ rfl
 simp only [Try.ntmps91, List.size_toArray, List.length_cons, List.length_nil, Nat.reduceAdd, Nat.reduceSub, Array.replicate_succ, Array.replicate_zero, List.push_toArray, List.append_toArray, List.nil_append, List.cons_append]
 gi_wp2_with fail
 clear c1
 gi_loopw [3] (fun s3 wr => ∃ k : Nat, k <= m /\ s3 = vi (f + k) /\ J k wr) (fun s3 _ => (t + 1 - intOf s3).toNat)
 case atStart => exact ⟨0, Nat.zero_le _, by simp, hW⟩
 case round =>
  obtain ⟨k, hk, rfl, hj⟩ := hrel
  have hw1 := HJ.out k _ hj
  have c2 := hw1.at 2 (v := vi x.d.last) rfl
  rw [<- HM.out.2.2] at c2
  by_cases hlt : k < m
  ·have hle : f + (k : Int) <= t := by omega
   have wn : IntKind.i64.wrap (f + (k : Int) + 1) = f + (k : Int) + 1 := IntWalk.i64_in _ (by omega)
   have hy := HY.out k wr (by rw [<- HM.out.1]; exact hlt) hj
   rw [<- HM.out.2.1] at hy
   have HYK := Lib.hid hy
   clear hw1 hj hy hW
   obtain ⟨fn, tmps, assign, body, hy, hR⟩ := HYK.out
   gi_wp2_with fail
   refine ⟨fun h => (by cases h), hR.mono ?_⟩
   clear hy hR c2
   rintro e w3 ⟨rfl, hj3⟩
   gi_wp2_with fail
   go_roundw
   case rel => exact ⟨k + 1, by omega, by rw [show f + ((k + 1 : Nat) : Int) = f + k + 1 by omega], hj3⟩
   case measure => simp [intOf]; omega
  ·have hkm : k = m := by omega
   have hle : ¬ (f + (k : Int) <= t) := by omega
   have HE := Lib.hid ((hkm.trans HM.out.1) ▸ hj)
   clear hw1 hj hkm hW
   gi_wp2_with fail
   all_goals
    refine ⟨fun _ h => (by cases h), ?_⟩
    gi_wp2_with fail
    go_end0
    exact ⟨⟨_, rfl⟩, HE.out⟩
end

section
def kidsS (q : Pj) (wo : Int) (s : Sx) : List Int := match q.works[s.n]? with
 | some x => -1 :: (if decide ((s.n : Int) = wo) || !agreeB q.villages x then [] else (List.range (yearsN x)).map fun (k : Nat) => x.first + (k : Int))
 | none => []
def bldS (q : Pj) (s : Sx) (y : Int) : Sx := match q.works[s.n]? with
 | some x => buildS x q.needs s y
 | none => s
def srch (q : Pj) (wo : Int) : Srch Sx Int where
 rem s := q.works.length - s.n
 kids := kidsS q wo
 build := bldS q
 cost s := s.p.sum
 cut s := !paidB q.purses s.p
 enough s := enoughB q.needs s.a
theorem bldS_n (q : Pj) (s : Sx) (y : Int) (h : s.n < q.works.length) : (bldS q s y).n = s.n + 1 := by
 obtain ⟨x, hx⟩ := get_of_lt h
 unfold bldS
 rw [hx]
 dsimp only
 unfold buildS
 split <;> rfl
theorem bldS_at {q : Pj} {s : Sx} {x : Wd} (y : Int) (h : q.works[s.n]? = some x) : bldS q s y = buildS x q.needs s y := by
 unfold bldS
 rw [h]
theorem srch_ok (q : Pj) (wo : Int) (hq : ∀ x ∈ q.works, 0 <= x.price) : SrchOk (srch q wo) where
 less s y h := by
  have h : 0 < q.works.length - s.n := h
  show q.works.length - (bldS q s y).n + 1 = q.works.length - s.n
  rw [bldS_n q s y (by omega)]
  omega
 dear s y := by
  show s.p.sum <= (bldS q s y).p.sum
  unfold bldS
  split
  ·rename_i x hx
   unfold buildS
   split
   ·exact Int.le_refl _
   ·exact sum_set_le _ _ (hq x (List.mem_of_getElem? hx)) _
  ·exact Int.le_refl _
 cut s y h := by
  have h : (!paidB q.purses s.p) = true := h
  show (!paidB q.purses (bldS q s y).p) = true
  unfold bldS
  split
  ·rename_i x hx
   unfold buildS
   split
   ·exact h
   ·dsimp only
    rw [Bool.not_eq_true'] at h ⊢
    unfold paidB at h ⊢
    rw [List.all_eq_false] at h ⊢
    obtain ⟨z, hz, hlt⟩ := h
    refine ⟨z, hz, ?_⟩
    have := take_sum_set s.p x.price (hq x (List.mem_of_getElem? hx)) y.toNat (z + 1)
    simp only [decide_eq_true_eq] at hlt ⊢
    omega
  ·exact h
structure SxGo (p : Pm) (s : Sx) : Prop where
 ok : SxOk s
 n : s.n <= p.ws.length
 a : ∀ z ∈ s.a, 0 <= z /\ z <= 10000
 p : ∀ z ∈ s.p, 0 <= z /\ z <= (s.n : Int) * 1000000
theorem SxGo.inn {p : Pm} {s : Sx} (h : SxGo p s) (hp : PjOk p) : SxIn s := by
 have h8 := hp.wn
 have hn := h.n
 refine ⟨h.ok, by unfold inI; omega, fun z hz => ?_, fun z hz => ?_⟩
 ·have := h.a z hz
  unfold inI
  omega
 ·have := h.p z hz
  unfold inI
  omega
theorem SxGo.a6 {p : Pm} {s : Sx} (h : SxGo p s) : ∀ z ∈ s.a, 0 <= z /\ z <= 1000000 := fun z hz => by have := h.a z hz; omega
theorem SxGo.p9 {p : Pm} {s : Sx} (h : SxGo p s) (hp : PjOk p) : ∀ z ∈ s.p, 0 <= z /\ z <= 1000000000 := fun z hz => by
 have := h.p z hz
 have := hp.wn
 have := h.n
 omega
theorem buildA_bd {x : Wd} {y : Int} {ns : List Nd} {a : List Int} (hx : ∀ r ∈ x.adds, 0 <= r.lo /\ r.lo <= 10000) (hg : 0 <= x.age) (hn : ∀ n ∈ ns, 0 <= n.due /\ n.due <= 10000) (ha : ∀ z ∈ a, 0 <= z /\ z <= 10000) : ∀ k, ∀ z ∈ buildA x y ns a k, 0 <= z /\ z <= 10000
 | 0 => ha
 | k + 1 => by
  unfold buildA
  split
  ·rename_i n hnk
   intro z hz
   rcases List.mem_or_eq_of_mem_set hz with h | rfl
   ·exact buildA_bd hx hg hn ha k z h
   ·have h1 := hn n (List.mem_of_getElem? hnk)
    have h2 : 0 <= iAt a k := by
     unfold iAt
     cases hak : a[k]? with
     | none => exact Int.le_refl _
     | some v => exact (ha v (List.mem_of_getElem? hak)).1
    have h3 : 0 <= (rAt x.adds n.slope.toNat).lo /\ (rAt x.adds n.slope.toNat).lo <= 10000 := by
     cases hr : x.adds[n.slope.toNat]? with
     | none => unfold rAt; rw [hr]; decide
     | some r => rw [rAt_of hr]; exact hx r (List.mem_of_getElem? hr)
    have h4 := addsN_bd (x := x) (built := y) (year := n.year) h3.1 h3.2 hg
    unfold addU mnI
    split <;> omega
  ·exact buildA_bd hx hg hn ha k
theorem SxGo.bld {p : Pm} {s : Sx} {x : Wk} (h : SxGo p s) (hp : PjOk p) (hx : p.ws[s.n]? = some x) (y : Int) : SxGo p (bldS p.pj s y) := by
 have hlt := (List.getElem?_eq_some_iff.1 hx).1
 have hxd : p.pj.works[s.n]? = some x.d := by simp [Pm.pj, hx]
 rw [bldS_at y hxd]
 have hw := wdB_parts (hp.ws x (List.mem_of_getElem? hx))
 unfold buildS
 split
 ·exact ⟨⟨h.ok.a, h.ok.p⟩, hlt, h.a, fun z hz => by have := h.p z hz; dsimp only; omega⟩
 ·refine ⟨⟨?_, ?_⟩, hlt, ?_, ?_⟩
  ·show (buildA _ _ _ _ _).length = 20
   rw [buildA_len]
   exact h.ok.a
  ·show (List.set _ _ _).length = 5
   rw [List.length_set]
   exact h.ok.p
  ·refine buildA_bd (fun r hr => endR_bd (hi := false) (hw.2.2.2.2.2 r hr)) hw.2.2.1.1 (fun n hn => ?_) h.a _
   have := hp.ns n hn
   simp only [ndB, inB, Bool.and_eq_true, decide_eq_true_eq] at this
   omega
  ·intro z hz
   dsimp only at hz ⊢
   rcases List.mem_or_eq_of_mem_set hz with h1 | rfl
   ·have := h.p z h1
    omega
   ·have h2 : 0 <= iAt s.p y.toNat /\ iAt s.p y.toNat <= (s.n : Int) * 1000000 := by
     unfold iAt
     cases hak : s.p[y.toNat]? with
     | none => exact ⟨Int.le_refl _, by show (0 : Int) <= _; omega⟩
     | some v => exact h.p v (List.mem_of_getElem? hak)
    have := hw.1
    omega
def sx0 : Sx := ⟨0, List.replicate 20 0, List.replicate 5 0⟩
theorem sx0_go (p : Pm) : SxGo p sx0 :=
 ⟨⟨rfl, rfl⟩, Nat.zero_le _, fun z hz => by rw [List.eq_of_mem_replicate hz]; omega, fun z hz => by rw [List.eq_of_mem_replicate hz]; exact ⟨Int.le_refl _, by show (0 : Int) <= _; omega⟩⟩
end

section
open Go.RowKit
open Go.ChangeMaps (setBlock)

structure TP where
 p : Pm
 wo : Int
 fst : Bool
 B : Nat
 qb : Nat
 mb : Nat
 xb : Nat
 fb : Nat
 pb : Nat
 cb : Nat
 ob : Nat
 yb : Nat
 tb : Nat
 base : Nat
structure TpOk (T : TP) : Prop where
 p : PjOk T.p
 pc : T.p.ps.length <= T.p.pc
 hq : T.B <= T.qb
 hm : T.B <= T.mb
 qm : T.qb ≠ T.mb
 qx : T.qb < T.xb
 mx : T.mb < T.xb
 xf : T.xb < T.fb
 fp : T.fb < T.pb
 pc' : T.pb < T.cb
 co : T.cb < T.ob
 oy : T.ob < T.yb
 yt : T.yb < T.tb
 tB : T.tb < T.base
abbrev tpC (T : TP) : Array Value := #[.pointer (some ⟨T.fb, 0, none⟩), .pointer (some ⟨T.ob, 0, none⟩), .pointer (some ⟨T.cb, 0, none⟩), .pointer (some ⟨T.xb, 0, none⟩), .pointer (some ⟨T.pb, 0, none⟩), .pointer (some ⟨T.tb, 0, none⟩), .pointer (some ⟨T.yb, 0, none⟩)]
structure PmAt (p : Pm) (W : World) (B : Nat) : Prop where
 ws : Row wkL 6 W B p.wa p.ws
 ad : ∀ x ∈ p.ws, Row rgLW 2 W B x.a x.d.adds
 ns : Row ndL 3 W B p.na p.ns
 vs : Row boL 1 W B p.va p.vs
 ps : Row intL 1 W B p.pa p.ps
theorem PmAt.ok {p : Pm} {W : World} {B : Nat} (h : PmAt p W B) (hB : B <= W.heap.size) : PmOk p W := ⟨h.ws.more hB, fun x hx => (h.ad x hx).more hB, h.ns.more hB, h.vs.more hB, h.ps.more hB⟩
theorem PmOk.at {p : Pm} {W : World} (h : PmOk p W) : PmAt p W W.heap.size := ⟨h.ws, h.ad, h.ns, h.vs, h.ps⟩
theorem PmAt.keep {p : Pm} {W W' : World} {B : Nat} (h : PmAt p W B) (hk : ∀ q : Addr, q.block < B -> W'.cell? q = W.cell? q) : PmAt p W' B := ⟨h.ws.keep hk, fun x hx => (h.ad x hx).keep hk, h.ns.keep hk, h.vs.keep hk, h.ps.keep hk⟩
def planIn (base : Nat) (b : Option (List Int × Int)) (pv : Value) (W : World) : Prop := match b with
 | none => pv = .slice none 0 0
 | some q => (∃ A c, pv = .slice A q.1.length c /\ (q.1 = [] -> A = none)) /\ W.ownsRow base 3 1 pv q.1.length (q.1.map vi)
def costOf (b : Option (List Int × Int)) : Int := match b with
 | none => 0
 | some q => q.2
abbrev evB (b : Bool) : Value := .bool b
structure TryM (T : TP) (lp : List (SxK × Bool)) (b : Option (List Int × Int)) (pv : Value) (W : World) : Prop where
 q : Whole W T.qb 132 (plC T.p T.wo T.mb)
 pm : PmAt T.p W T.B
 map : RMap ekS evB T.mb lp W
 xb : Whole W T.xb 100 #[.pointer (some ⟨T.qb, 0, none⟩)]
 fb : Whole W T.fb 4 #[.bool T.fst]
 pb : Whole W T.pb 26 #[pv]
 cb : Whole W T.cb 3 #[vi (costOf b)]
 ob : Whole W T.ob 4 #[.bool b.isSome]
 yb : Whole W T.yb 127 #[.func (.func 57) #[pmV T.p] #[]]
 tb : Whole W T.tb 133 #[.func (.func 58) #[] (tpC T)]
 plan : planIn T.base b pv W
 le : T.base <= W.heap.size
structure Moved (T : TP) (g : Option Nat) (w W : World) : Prop where
 os : W.os = w.os
 tape : W.tape = w.tape
 output : W.output = w.output
 size : w.heap.size <= W.heap.size
 block : ∀ k, k < w.heap.size -> k ≠ T.mb -> k ≠ T.pb -> k ≠ T.cb -> k ≠ T.ob -> some k ≠ g -> W.heap[k]? = w.heap[k]?
section
variable {T : TP} {g : Option Nat} {w W W' : World}
theorem Moved.refl (T : TP) (g : Option Nat) (w : World) : Moved T g w w := ⟨rfl, rfl, rfl, Nat.le_refl _, fun _ _ _ _ _ _ _ => rfl⟩
theorem Moved.trans (h : Moved T g w W) (k : Moved T g W W') : Moved T g w W' :=
 ⟨k.os.trans h.os, k.tape.trans h.tape, k.output.trans h.output, Nat.le_trans h.size k.size, fun i hi h1 h2 h3 h4 h5 => (k.block i (Nat.lt_of_lt_of_le hi h.size) h1 h2 h3 h4 h5).trans (h.block i hi h1 h2 h3 h4 h5)⟩
theorem Moved.ofNewer (T : TP) (g : Option Nat) (h : newer w W) : Moved T g w W := ⟨h.os, h.tape, h.output, h.size, fun i hi _ _ _ _ _ => h.block i hi⟩
theorem Moved.next (h : Moved T g w W) (k : newer W W') : Moved T g w W' := h.trans (.ofNewer T g k)
theorem Moved.ofGrown (T : TP) (h : w.grownBy W g) : Moved T g w W := ⟨h.os, h.tape, h.output, h.size, fun i hi _ _ _ _ h5 => h.block i hi h5⟩
theorem Moved.weak (h : Moved T none w W) (g : Option Nat) : Moved T g w W := ⟨h.os, h.tape, h.output, h.size, fun i hi h1 h2 h3 h4 _ => h.block i hi h1 h2 h3 h4 (by simp)⟩
theorem Moved.fresh {n : Nat} {u : World} (h : Moved T (some n) w W) (hu : Moved T g u w) (hn : u.heap.size <= n) : Moved T g u W :=
 ⟨h.os.trans hu.os, h.tape.trans hu.tape, h.output.trans hu.output, Nat.le_trans hu.size h.size, fun i hi h1 h2 h3 h4 h5 => (h.block i (Nat.lt_of_lt_of_le hi hu.size) h1 h2 h3 h4 (by rw [Ne, Option.some.injEq]; omega)).trans (hu.block i hi h1 h2 h3 h4 h5)⟩
theorem Moved.set (h : Moved T g w W) {p : Addr} (hp : p.block = T.pb ∨ p.block = T.cb ∨ p.block = T.ob ∨ w.heap.size <= p.block) (u : Value) : Moved T g w (W.setCell p u) :=
 ⟨h.os, h.tape, h.output, by simpa [World.setCell] using h.size, fun i hi h1 h2 h3 h4 h5 => (Below.heap_setCell W p u i (by rcases hp with e | e | e | e <;> omega)).trans (h.block i hi h1 h2 h3 h4 h5)⟩
theorem Moved.setBlock (h : Moved T g w W) (o : Obj) : Moved T g w (Go.ChangeMaps.setBlock W T.mb o) :=
 ⟨h.os, h.tape, h.output, by simp only [Go.ChangeMaps.setBlock, Array.size_setIfInBounds]; exact h.size, fun i hi h1 h2 h3 h4 h5 => (setBlock_get_ne o h1).trans (h.block i hi h1 h2 h3 h4 h5)⟩
theorem Moved.whole (h : Moved T g w W) {k : Nat} {t : TypeId} {cs : Array Value} (hw : Whole w k t cs) (h1 : k ≠ T.mb) (h2 : k ≠ T.pb) (h3 : k ≠ T.cb) (h4 : k ≠ T.ob) (h5 : some k ≠ g) : Whole W k t cs := hw.same (h.block k hw.lt h1 h2 h3 h4 h5)
theorem Moved.high (h : Moved T g w W) (hT : TpOk T) {k : Nat} {t : TypeId} {cs : Array Value} (hw : Whole w k t cs) (hk : T.base <= k) (h5 : some k ≠ g) : Whole W k t cs := by
 have := hT.mx
 have := hT.xf
 have := hT.fp
 have := hT.pc'
 have := hT.co
 have := hT.oy
 have := hT.yt
 have := hT.tB
 exact h.whole hw (by omega) (by omega) (by omega) (by omega) h5
theorem Moved.own (h : Moved T g w W) (hT : TpOk T) {v : Value} {n : Nat} {xs : List Value} (ho : w.ownsRow T.base 3 1 v n xs) (hne : ∀ k, v.ownBlock = some k -> some k ≠ g) : W.ownsRow T.base 3 1 v n xs := by
 refine ⟨ho.1, ?_⟩
 rcases ho.2 with hn | ⟨q, cap, cur, rfl, hb, hgg, rest⟩
 ·exact .inl hn
 ·refine .inr ⟨q, cap, cur, rfl, hb, ?_, rest⟩
  exact h.high hT (cs := cur) hgg hb (hne q rfl)
theorem planIn.own {base : Nat} {b : Option (List Int × Int)} {pv : Value} {W : World} (h : planIn base b pv W) : ∃ n xs, W.ownsRow base 3 1 pv n xs := by
 cases b with
 | none =>
  have h : pv = .slice none 0 0 := h
  subst h
  exact ⟨0, [], World.ownsRow_nil W base 3 1⟩
 | some q => exact ⟨_, _, h.2⟩
theorem planIn.keep {base : Nat} {b : Option (List Int × Int)} {pv : Value} {W W' : World} (h : planIn base b pv W) (hk : ∀ n xs, W.ownsRow base 3 1 pv n xs -> W'.ownsRow base 3 1 pv n xs) : planIn base b pv W' := by
 cases b with
 | none => exact h
 | some q => exact ⟨h.1, hk _ _ h.2⟩
variable {lp : List (SxK × Bool)} {b : Option (List Int × Int)} {pv : Value}
theorem TryM.lt (h : TryM T lp b pv W) (hT : TpOk T) : T.B <= W.heap.size := by
 have := h.q.lt
 have := hT.hq
 omega
theorem TryM.next (h : TryM T lp b pv W) (hT : TpOk T) (hb : newer W W') : TryM T lp b pv W' :=
 ⟨h.q.below hb h.q.lt, h.pm.keep (fun _ hq => hb.cell (Nat.lt_of_lt_of_le hq (h.lt hT))), h.map.next hb, h.xb.below hb h.xb.lt, h.fb.below hb h.fb.lt, h.pb.below hb h.pb.lt, h.cb.below hb h.cb.lt, h.ob.below hb h.ob.lt, h.yb.below hb h.yb.lt, h.tb.below hb h.tb.lt, h.plan.keep fun _ _ ho => own_below ho hb, Nat.le_trans h.le hb.size⟩
theorem TryM.grown (h : TryM T lp b pv W) (hT : TpOk T) (hb : W.grownBy W' g) (hg : ∀ k, g = some k -> T.base <= k) (hp : ∀ k, pv.ownBlock = some k -> g ≠ some k) : TryM T lp b pv W' := by
 have k1 := hT.qx
 have k2 := hT.mx
 have k3 := hT.xf
 have k4 := hT.fp
 have k5 := hT.pc'
 have k6 := hT.co
 have k7 := hT.oy
 have k8 := hT.yt
 have k9 := hT.tB
 have k0 := hT.hq
 have low : ∀ k, k < T.base -> some k ≠ g := fun k hk e => by
  have := hg k e.symm
  omega
 have hs := h.le
 refine ⟨h.q.grown hb (low _ (by omega)), h.pm.keep (fun q hq => ?_), h.map.same (hb.block _ h.map.lt (low _ (by omega))), h.xb.grown hb (low _ (by omega)), h.fb.grown hb (low _ (by omega)), h.pb.grown hb (low _ (by omega)), h.cb.grown hb (low _ (by omega)), h.ob.grown hb (low _ (by omega)), h.yb.grown hb (low _ (by omega)), h.tb.grown hb (low _ (by omega)), h.plan.keep fun _ _ ho => ho.kept hb ?_, Nat.le_trans hs hb.size⟩
 ·exact World.cell?_of_block (hb.block _ (by omega) (low _ (by omega)))
 ·rcases Option.eq_none_or_eq_some pv.ownBlock with e | ⟨k, e⟩
  ·exact .inl e
  ·exact .inr fun e2 => hp k e (e2.symm.trans e)
theorem TryM.put (h : TryM T lp b pv W) (hT : TpOk T) (lp' : List (SxK × Bool)) : TryM T lp' b pv (setBlock W T.mb (.map (ents ekS evB lp') lp'.length)) := by
 have k1 := hT.qx
 have k2 := hT.mx
 have k3 := hT.xf
 have k4 := hT.fp
 have k5 := hT.pc'
 have k6 := hT.co
 have k7 := hT.oy
 have k8 := hT.yt
 have k9 := hT.tB
 have k0 := hT.hm
 refine ⟨h.q.setBlock hT.qm _, h.pm.keep (fun q hq => ?_), h.map.put, h.xb.setBlock (by omega) _, h.fb.setBlock (by omega) _, h.pb.setBlock (by omega) _, h.cb.setBlock (by omega) _, h.ob.setBlock (by omega) _, h.yb.setBlock (by omega) _, h.tb.setBlock (by omega) _, h.plan.keep fun n xs ho => ?_, by simp only [setBlock, Array.size_setIfInBounds]; exact h.le⟩
 ·exact World.cell?_of_block (setBlock_get_ne _ (by omega))
 ·exact (Moved.setBlock (Moved.refl T none W) _).own hT ho (by simp)
theorem TryM.found (h : TryM T lp b pv W) (hT : TpOk T) (l : List Int) (c : Int) {A : Option Addr} {ca : Nat} (hn : l = [] -> A = none) (ho : W.ownsRow T.base 3 1 (.slice A l.length ca) l.length (l.map vi)) :
  TryM T lp (some (l, c)) (.slice A l.length ca) (((W.setCell ⟨T.pb, 0, none⟩ (.slice A l.length ca)).setCell ⟨T.cb, 0, none⟩ (vi c)).setCell ⟨T.ob, 0, none⟩ (.bool true)) := by
 have k1 := hT.qx
 have k2 := hT.mx
 have k3 := hT.xf
 have k4 := hT.fp
 have k5 := hT.pc'
 have k6 := hT.co
 have k7 := hT.oy
 have k8 := hT.yt
 have k9 := hT.tB
 have k0 := hT.hq
 have far : ∀ {k : Nat} {t : TypeId} {cs : Array Value}, Whole W k t cs -> k ≠ T.pb -> k ≠ T.cb -> k ≠ T.ob -> Whole (((W.setCell ⟨T.pb, 0, none⟩ (.slice A l.length ca)).setCell ⟨T.cb, 0, none⟩ (vi c)).setCell ⟨T.ob, 0, none⟩ (.bool true)) k t cs := fun hw h1 h2 h3 => ((hw.far (p := ⟨T.pb, 0, none⟩) h1 _).far (p := ⟨T.cb, 0, none⟩) h2 _).far (p := ⟨T.ob, 0, none⟩) h3 _
 have hmv : Moved T none W (((W.setCell ⟨T.pb, 0, none⟩ (.slice A l.length ca)).setCell ⟨T.cb, 0, none⟩ (vi c)).setCell ⟨T.ob, 0, none⟩ (.bool true)) := (((Moved.refl T none W).set (p := ⟨T.pb, 0, none⟩) (.inl rfl) _).set (p := ⟨T.cb, 0, none⟩) (.inr (.inl rfl)) _).set (p := ⟨T.ob, 0, none⟩) (.inr (.inr (.inl rfl))) _
 refine ⟨far h.q (by omega) (by omega) (by omega), h.pm.keep (fun q hq => ?_), ((h.map.far (p := ⟨T.pb, 0, none⟩) (by dsimp only; omega) _).far (p := ⟨T.cb, 0, none⟩) (by dsimp only; omega) _).far (p := ⟨T.ob, 0, none⟩) (by dsimp only; omega) _, far h.xb (by omega) (by omega) (by omega), far h.fb (by omega) (by omega) (by omega), ?_, ?_, ?_, far h.yb (by omega) (by omega) (by omega), far h.tb (by omega) (by omega) (by omega), ?_, ?_⟩
 ·have hB := hT.hm
  exact World.cell?_of_block (hmv.block _ (by have := h.lt hT; omega) (by omega) (by omega) (by omega) (by omega) (by simp))
 ·exact ((h.pb.set 0 _).far (p := ⟨T.cb, 0, none⟩) (by dsimp only; omega) _).far (p := ⟨T.ob, 0, none⟩) (by dsimp only; omega) _
 ·exact ((h.cb.far (p := ⟨T.pb, 0, none⟩) (by dsimp only; omega) _).set 0 _).far (p := ⟨T.ob, 0, none⟩) (by dsimp only; omega) _
 ·exact (((h.ob.far (p := ⟨T.pb, 0, none⟩) (by dsimp only; omega) _).far (p := ⟨T.cb, 0, none⟩) (by dsimp only; omega) _).set 0 _)
 ·exact ⟨⟨A, ca, rfl, hn⟩, hmv.own hT ho (by simp)⟩
 ·exact Nat.le_trans h.le hmv.size
def Seen (lp : List (SxK × Bool)) (M : List Sx) : Prop := ∀ k : SxK, ((atR k lp 0).map fun p => p.2) = if k.1 ∈ M then some true else none
theorem Seen.put {lp : List (SxK × Bool)} {M : List Sx} (h : Seen lp M) (k : SxK) (hk : k.1 ∉ M) : Seen (putR k true lp) (k.1 :: M) := by
 have h0 := h k
 rw [if_neg hk] at h0
 have hn : atR k lp 0 = none := by
  cases hh : atR k lp 0 with
  | none => rfl
  | some p => rw [hh] at h0; cases h0
 intro j
 have e : putR k true lp = lp ++ [(k, true)] := by unfold putR; rw [hn]
 rw [e, atR_app, h j]
 by_cases hj : j.1 ∈ M
 ·rw [if_pos hj, if_pos (List.mem_cons_of_mem _ hj)]
  rfl
 ·rw [if_neg hj]
  by_cases hjk : j = k
  ·subst hjk
   rw [if_pos (by simp)]
   simp
  ·have hne : ¬ (j.1 ∈ k.1 :: M) := by
    intro hm
    rcases List.mem_cons.1 hm with e1 | e1
    ·exact hjk (Subtype.ext e1)
    ·exact hj e1
   rw [if_neg hne]
   simp [hjk]
theorem Seen.nil : Seen [] [] := fun _ => rfl
theorem Seen.look {lp : List (SxK × Bool)} {M : List Sx} (h : Seen lp M) (k : SxK) : (((atR k lp 0).map fun p => evB p.2).getD (.bool false)) = .bool (decide (k.1 ∈ M)) := by
 have h0 := h k
 cases hh : atR k lp 0 with
 | none =>
  rw [hh] at h0
  by_cases hm : k.1 ∈ M
  ·rw [if_pos hm] at h0; cases h0
  ·simp [hm]
 | some p =>
  rw [hh] at h0
  by_cases hm : k.1 ∈ M
  ·rw [if_pos hm] at h0
   injection h0 with h1
   simp [hm, h1]
  ·rw [if_neg hm] at h0; cases h0
def pvNew (pv pv' : Value) (w : World) : Prop := pv' = pv ∨ ∀ k, pv'.ownBlock = some k -> w.heap.size <= k
def PNe (pv v : Value) : Prop := ∀ k, pv.ownBlock = some k -> v.ownBlock ≠ some k
theorem PNe.of {pv pv' v : Value} {w : World} (h : PNe pv v) (hn : pvNew pv pv' w) (hv : ∀ k, v.ownBlock = some k -> k < w.heap.size) : PNe pv' v := by
 intro k hk hv2
 rcases hn with rfl | hn
 ·exact h k hk hv2
 ·have := hn k hk
  have := hv k hv2
  omega
theorem pvNew.trans {pv pv1 pv2 : Value} {w w1 : World} (h : pvNew pv pv1 w) (k : pvNew pv1 pv2 w1) (hs : w.heap.size <= w1.heap.size) : pvNew pv pv2 w := by
 rcases k with rfl | k
 ·exact h
 ·exact .inr fun q hq => Nat.le_trans hs (k q hq)
theorem Onto1.pne {A : Option Addr} {c n g c' : Nat} {w w' : World} {pv : Value} (h : Onto1 A c g c' w w') (hp : PNe pv (.slice A n c)) (hl : ∀ k, pv.ownBlock = some k -> k < w.heap.size) : PNe pv (.slice (some ⟨g, 0, none⟩) (n + 1) c') := by
 intro k hk e
 have e : g = k := by simpa [Value.ownBlock] using e
 subst e
 rcases h with ⟨rfl, _, _⟩ | ⟨h, _⟩
 ·exact hp g hk rfl
 ·have := hl g hk
  omega
theorem Onto1.back {A : Option Addr} {c n g c' : Nat} {w w1 w2 : World} {xs : List Value} {y : Value} (h : Onto1 A c g c' w w1) (hT : TpOk T) (ho : w.ownsRow T.base 3 1 (.slice A n c) n xs) (hm : Moved T (some g) w1 w2) (ho2 : w2.ownsRow T.base 3 1 (.slice (some ⟨g, 0, none⟩) (n + 1) c') (n + 1) (xs ++ [y])) :
  w2.ownsRow T.base 3 1 (.slice A n c) n xs /\ Moved T (Value.slice A n c).ownBlock w w2 := by
 rcases h with ⟨rfl, rfl, h⟩ | ⟨h, hg⟩
 ·exact ⟨own_prefix ho2, (Moved.ofGrown T h).trans hm⟩
 ·have h1 : w1.ownsRow T.base 3 1 (.slice A n c) n xs := ho.kept hg (by rcases Option.eq_none_or_eq_some (Value.slice A n c).ownBlock with e | ⟨k, e⟩ <;> simp [e])
  refine ⟨hm.own hT h1 fun k hk e => ?_, Moved.fresh hm ((Moved.ofGrown T hg).weak _) h⟩
  have := own_lt ho k hk
  injection e with e
  omega
end
end

end Go.Proofs.Ytcdhhfgpdokkoaa
