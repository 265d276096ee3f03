/- States of the search: what they cost, whether they are enough. -/
import Derived.Test.YtpnpnfjhjjdmgaaK
namespace Go.Proofs.Ytpnpnfjhjjdmgaa
open Go.RowKit

structure Sx where
  n : Nat
  a : List Int
  p : List Int
deriving DecidableEq
structure SxOk (s : Sx) : Prop where
  a : s.a.length = 20
  p : s.p.length = 5
abbrev stC (s : Sx) : Array Value := #[vi (s.n : Int), vi (iAt s.a 0), vi (iAt s.a 1), vi (iAt s.a 2), vi (iAt s.a 3), vi (iAt s.a 4), vi (iAt s.a 5), vi (iAt s.a 6), vi (iAt s.a 7), vi (iAt s.a 8), vi (iAt s.a 9), vi (iAt s.a 10), vi (iAt s.a 11), vi (iAt s.a 12), vi (iAt s.a 13), vi (iAt s.a 14), vi (iAt s.a 15), vi (iAt s.a 16), vi (iAt s.a 17), vi (iAt s.a 18), vi (iAt s.a 19), vi (iAt s.p 0), vi (iAt s.p 1), vi (iAt s.p 2), vi (iAt s.p 3), vi (iAt s.p 4)]
theorem stC_list {s : Sx} (h : SxOk s) : (stC s).toList = vi (s.n : Int) :: (s.a ++ s.p).map vi := by
  have h1 : (s.a ++ s.p).map vi = ((List.range 20).map (iAt s.a) ++ (List.range 5).map (iAt s.p)).map vi := by
    rw [← h.a, map_iAt, ← h.p, map_iAt]
  rw [h1]
  rfl
theorem stC_at {s : Sx} (h : SxOk s) (i : Nat) : (stC s)[i]? = (vi (s.n : Int) :: (s.a ++ s.p).map vi)[i]? := by
  rw [← stC_list h, Array.getElem?_toList]
theorem stC_a {s : Sx} (h : SxOk s) {i : Nat} {x : Int} (hx : s.a[i]? = some x) : (stC s)[1 + i]? = some (vi x) := by
  have hi := (List.getElem?_eq_some_iff.1 hx).1
  rw [stC_at h, Nat.add_comm, List.getElem?_cons_succ, List.getElem?_map, List.getElem?_append_left hi, hx]
  rfl
theorem stC_p {s : Sx} (h : SxOk s) {i : Nat} {x : Int} (hx : s.p[i]? = some x) : (stC s)[21 + i]? = some (vi x) := by
  rw [stC_at h, show 21 + i = (20 + i) + 1 by omega, List.getElem?_cons_succ, List.getElem?_map, List.getElem?_append_right (by rw [h.a]; omega), h.a, show 20 + i - 20 = i by omega, hx]
  rfl
theorem stC_of {s : Sx} (h : SxOk s) {c : Array Value} (hc : c.toList = vi (s.n : Int) :: (s.a ++ s.p).map vi) : c = stC s := by
  apply Array.toList_inj.1
  rw [hc, stC_list h]
theorem stC_set_n (s : Sx) (m : Nat) : (stC s).setIfInBounds 0 (vi (m : Int)) = stC ⟨m, s.a, s.p⟩ := rfl
theorem stC_set_a {s : Sx} (h : SxOk s) {i : Nat} (hi : i < 20) (x : Int) : (stC s).setIfInBounds (1 + i) (vi x) = stC ⟨s.n, s.a.set i x, s.p⟩ := by
  refine stC_of (s := ⟨s.n, s.a.set i x, s.p⟩) ⟨by simp [h.a], h.p⟩ ?_
  rw [Array.toList_setIfInBounds, stC_list h, Nat.add_comm, List.set_cons_succ, ← List.map_set, List.set_append_left _ _ (by rw [h.a]; exact hi)]
theorem stC_set_p {s : Sx} (h : SxOk s) {i : Nat} (x : Int) : (stC s).setIfInBounds (21 + i) (vi x) = stC ⟨s.n, s.a, s.p.set i x⟩ := by
  refine stC_of (s := ⟨s.n, s.a, s.p.set i x⟩) ⟨h.a, by simp [h.p]⟩ ?_
  rw [Array.toList_setIfInBounds, stC_list h, show 21 + i = (20 + i) + 1 by omega, List.set_cons_succ, ← List.map_set, List.set_append_right _ _ (by rw [h.a]; omega), h.a, show 20 + i - 20 = i by omega]
theorem stC_row {s : Sx} (h : SxOk s) {W : World} {b : Nat} {t : TypeId} (hw : Whole W b t (stC s)) : Row intL 1 W W.heap.size (some ⟨b, 21, none⟩) s.p := fun _ => by
  refine ⟨b, 21, rfl, hw.lt, fun k x hk j v hv => ?_⟩
  obtain rfl : j = 0 := by
    rcases j with _ | j
    · rfl
    · simp at hv
  simp only [List.getElem?_cons_zero, Option.some.injEq] at hv
  subst hv
  rw [Nat.mul_one, Nat.add_zero]
  exact hw.at _ (stC_p h hk)
set_option maxRecDepth 100000 in
set_option maxHeartbeats 2000000 in
theorem cost_any (s : Sx) (w : World) (h : SxOk s) (hb : ∀ x ∈ s.p, 0 ≤ x ∧ x ≤ 1000000000) :
    Calls Try.prog 81 #[.agg (stC s)] w fun e w' => e = .returned (vi s.p.sum) ∧ newer w w' := by
  have hw := Whole.made w 123 (stC s)
  have HS := Lib.hid (by
    have h2 := sum_any s.p (some ⟨w.heap.size, 21, none⟩) 5 (w.alloc (.cells (stC s) 123)) (by rw [h.p]; omega) hb (stC_row h hw)
    rw [h.p] at h2
    exact h2)
  clear hw h hb
  go_enter Try.func81, Try.ntmps81
  go_wp2_with fail
  refine (HS.out).mono ?_
  rintro e w1 ⟨rfl, hb1⟩
  have HF := Lib.hid (newer_trans (newer_allocH w _) hb1)
  clear hb1 HS
  go_wp2_with fail
  go_ret
  exact ⟨rfl, HF.out⟩
abbrev plC (p : Pm) (wo : Int) (mb : Nat) : Array Value := #[vi p.years, vi p.slopes, .slice p.wa p.ws.length p.wc, .slice p.na p.ns.length p.nc, .slice p.va p.vs.length p.vc, .slice p.pa p.ps.length p.pc, vi wo, .map (some mb)]
/-- Are all needs met? -/
def enoughB (ns : List Nd) (a : List Int) : Bool := (ns.zip a).all fun q => decide (q.1.due ≤ q.2)
set_option maxRecDepth 100000 in
set_option maxHeartbeats 2000000 in
theorem enough_any (p : Pm) (wo : Int) (mb qb : Nat) (s : Sx) (w : World) (hok : PmOk p w) (hq : Whole w qb 119 (plC p wo mb)) (h : SxOk s) (hn : p.ns.length ≤ 20) :
    Calls Try.prog 82 #[.pointer (some ⟨qb, 0, none⟩), .agg (stC s)] w fun e w' => e = .returned (.bool (enoughB p.ns s.a)) ∧ newer w w' := by
  have hnw := newer_allocH w (.cells (stC s) 123)
  have hs := Whole.made w 123 (stC s)
  obtain ⟨sb, hsb⟩ : ∃ sb, sb = w.heap.size := ⟨_, rfl⟩
  rw [← hsb] at hs
  have HZ := Lib.hid (show (p.ns.zip s.a).length = p.ns.length by rw [List.length_zip, h.a]; omega)
  have HW := Lib.hid (And.intro hnw (And.intro (hq.alloc (.cells (stC s) 123)) hs))
  have HS := Lib.hid h
  have HOK := Lib.hid hok
  have q3 := (hq.alloc (.cells (stC s) 123)).at 3 (v := .slice p.na p.ns.length p.nc) rfl
  unfold enoughB
  clear hnw hs hok h hq
  go_enter Try.func82, Try.ntmps82
  go_wp2_with fail
  rw [← hsb]
  clear hsb q3
  obtain ⟨na, hna⟩ : ∃ na, na = p.na := ⟨_, rfl⟩
  rw [← hna]
  have HNA := Lib.hid hna
  clear hna
  go_loopw [13] (fun s13 wr => ∃ k : Nat, k ≤ p.ns.length ∧ s13 = .int .i64 k ∧ newer w wr ∧ Whole wr sb 123 (stC s) ∧ early (fun q => !decide (q.1.due ≤ q.2)) (p.ns.zip s.a) k) (fun s13 _ => p.ns.length - (intOf s13).toNat)
  case atStart => exact ⟨0, Nat.zero_le _, rfl, HW.out.1, HW.out.2.2, early_zero _ _⟩
  case round =>
    obtain ⟨k, hk, rfl, hbw, hbs, he⟩ := hrel
    have HE := Lib.hid he
    clear he HW
    by_cases hlt : k < p.ns.length
    · have hkn : (k : Int) < p.ns.length := by omega
      have hk20 : (k : Int) < 20 := by omega
      obtain ⟨n, hnn⟩ := get_of_lt hlt
      obtain ⟨x, hx⟩ := get_of_lt (l := s.a) (k := k) (by rw [HS.out.a]; omega)
      have HZK := Lib.hid (zip_at hnn hx)
      obtain ⟨b2, o2, e2, _, d0, d1, d2⟩ := row3 (HOK.out.next hbw).ns hnn
      have e3 := HNA.out.trans e2
      clear e2 HNA
      subst e3
      have HC1 := Lib.hid (stC_a HS.out hx)
      have HBW := Lib.hid (And.intro hbw hbs)
      clear hbw hbs hnn hx
      go_upto_region 4 with fail
      refine genQ (fun X => newer wr X ∧ Whole X wr.heap.size 89 #[vi n.slope, vi n.year, vi n.due]) ⟨newer_allocH _ _, Whole.made _ _ _⟩ ?_
      obtain ⟨nb, hnb⟩ : ∃ nb, nb = wr.heap.size := ⟨_, rfl⟩
      rw [← hnb]
      clear hnb d0 d1 d2
      rintro wv ⟨hn, hwx⟩
      have y2 := hwx.at 2 (v := vi n.due) rfl
      have hbs := HBW.out.2.below hn HBW.out.2.lt
      have c1 := hbs.at (1 + k) HC1.out
      have HB := Lib.hid (And.intro hn hbs)
      clear hn hwx hbs
      refine wp_words (by kernel_rfl) (region_told 6 (by kernel_rfl) (by kernel_rfl) (fun W => Below wv.heap.size wv W) newer (pickD [vIs (.int .i64 k), vIs (.pointer (some ⟨sb, 1, none⟩)), vIs (.pointer (some ⟨sb, 1 + k, none⟩)), vIs (vi x), vIs (.pointer (some ⟨nb, 2, none⟩)), vIs (vi n.due)]) (fun h k => newer_trans h k) (pickD_stable _ ⟨vIs_st, vIs_st, vIs_st, vIs_st, vIs_st, vIs_st, trivial⟩) (Below.refl _ wv).drew (Below.refl _ _) ?_ ?_)
      · refine ⟨?_, ?_, ?_, ?_, ?_, ?_, trivial⟩
        · intro a W hG hR hO hp
          have h5 := hO.slot 5 (by kernel_rfl)
          refine wp_yields (v := .int .i64 k) ?_ ⟨_, rfl, rfl, Below.refl _ _, hG⟩
          simp [slotOf] at h5
          simp [execOp, go_sem, h5]
        · intro a W hG hR hO hp
          have h3 := hO.slot 3 (by kernel_rfl)
          refine wp_yields (v := .pointer (some ⟨sb, 1, none⟩)) ?_ ⟨_, rfl, rfl, Below.refl _ _, hG⟩
          simp [slotOf] at h3
          simp [execOp, go_sem, h3]
        · intro a W hG hR hO hp
          have h19 : slotOf a 19 = .pointer (some ⟨sb, 1, none⟩) := hp.1
          have h18 : slotOf a 18 = .int .i64 k := hp.2.1
          refine wp_yields (v := .pointer (some ⟨sb, 1 + k, none⟩)) ?_ ⟨_, rfl, rfl, Below.refl _ _, hG⟩
          simp [slotOf] at h19 h18
          simp [execOp, go_sem, h19, h18, hk20]
        · intro a W hG hR hO hp
          have h20 : slotOf a 20 = .pointer (some ⟨sb, 1 + k, none⟩) := hp.1
          have c0 := keep_cell c1 hG
          refine wp_yields (v := vi x) ?_ ⟨_, rfl, rfl, Below.refl _ _, hG⟩
          simp [slotOf] at h20
          simp [execOp, go_sem, h20, c0]
        · intro a W hG hR hO hp
          have h6 := hO.slot 6 (by kernel_rfl)
          refine wp_yields (v := .pointer (some ⟨nb, 2, none⟩)) ?_ ⟨_, rfl, rfl, Below.refl _ _, hG⟩
          simp [slotOf] at h6
          simp [execOp, go_sem, h6]
        · intro a W hG hR hO hp
          have h22 : slotOf a 22 = .pointer (some ⟨nb, 2, none⟩) := hp.1
          have c0 := keep_cell y2 hG
          refine wp_yields (v := vi n.due) ?_ ⟨_, rfl, rfl, Below.refl _ _, hG⟩
          simp [slotOf] at h22
          simp [execOp, go_sem, h22, c0]
      · intro W hG hR
        rintro _ rfl _ rfl _ rfl _ rfl _ rfl _ rfl
        change wpList _ _ _ _ _ _
        simp only [Act.put, List.setIfInBounds_toArray, List.set_cons_zero, List.set_cons_succ, List.drop_succ_cons, List.drop_zero]
        have HF := Lib.hid (And.intro (newer_trans HBW.out.1 (newer_trans HB.out.1 hG)) (HB.out.2.below hG HB.out.2.lt))
        clear hG hR HB HBW y2 c1
        by_cases hlo : x < n.due
        · go_wp2_with fail
          go_ret
          refine ⟨ret_bool (all_bad HZK.out ?_).symm, HF.out.1⟩
          exact decide_eq_false (by show ¬ (n.due ≤ x); omega)
        · go_wp2_with fail
          go_roundw
          case rel =>
            refine ⟨k + 1, by omega, by go_num, HF.out.1, HF.out.2, early_succ HE.out HZK.out ?_⟩
            rw [decide_eq_true (by show n.due ≤ x; omega)]
            rfl
          case measure => simp [intOf]; omega
    · obtain rfl : k = p.ns.length := by omega
      have hkn : ¬ ((p.ns.length : Int) < p.ns.length) := by omega
      go_wp2_with fail
      go_ret
      exact ⟨ret_bool (all_early (by rw [HZ.out]; exact HE.out)).symm, hbw⟩
end Go.Proofs.Ytpnpnfjhjjdmgaa
