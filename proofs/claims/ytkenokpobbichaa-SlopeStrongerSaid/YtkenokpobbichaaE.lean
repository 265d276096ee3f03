/- The beds that may follow a bed. -/
import Derived.Test.YtkenokpobbichaaD
import Derived.RangeFuncBound
import Derived.Shelf.Abstract
import Derived.Shelf.RegionOpen
import Derived.OwnWalkIn
import Derived.TacticsInMore
import Derived.LoopNIn
import Derived.LoopIn
namespace Go.Proofs.Ytkenokpobbichaa
open Go.RowKit Go.Shelf Go.Deep

set_option maxHeartbeats 1000000 in
theorem next_any (s : Sm) (f : Int) (t : Option Bool) (b : Nat) (w : World) :
    Calls Try.prog 100 #[lkV s f t, vi b] w fun e w' => e = .returned (.func (.func 115) #[] #[.pointer (some ⟨w.heap.size + 1, 0, none⟩), .pointer (some ⟨w.heap.size, 0, none⟩)]) ∧ ((w.alloc (.cells (lkC s f t) 115)).alloc (.cells #[vi b] 3)) = w' := by
  go_enter Try.func100, Try.ntmps100
  go_wp2
  go_ret
  exact ⟨rfl, rfl⟩
def loN (b : Nat) : Nat := b - 1
def cntN (n b : Nat) : Nat := min (n - 1) (b + 1) + 1 - (b - 1)
theorem near_is (n b : Nat) : nearL n b = List.range' (loN b) (cntN n b) := rfl
attribute [local go_sem] Oper.semAt_some
set_option maxRecDepth 100000 in
set_option maxHeartbeats 2000000 in
theorem next_in (q l bb lb : Nat) (s : Sm) (f : Int) (t : Option Bool) (x : Cl) (b : Nat) (hx : s.cs[0]? = some x) (hb : b < x.beds.length) (hl : x.beds.length ≤ 1000) (J : Nat → World → Prop)
    (hJ : ∀ k W, J k W → Whole W bb 3 #[vi b] ∧ Whole W lb 115 (lkC s f t) ∧ SmOk s W) (hN : ∀ k W W', J k W → newer W W' → J k W')
    (hY : ∀ k W, k < cntN x.beds.length b → J k W → YieldAt Fence.wide (q - 1) Try.prog l #[vi (((loN b : Nat) : Int) + k)] W fun e W'' => e = .returned (.bool true) ∧ J (k + 1) W'')
    (W : World) (hW : J 0 W) :
    CallsIn Fence.wide q Try.prog 115 #[.func (.yield l) #[] #[], .pointer (some ⟨bb, 0, none⟩), .pointer (some ⟨lb, 0, none⟩)] W fun e W' => (∃ v, e = .returned v) ∧ J (cntN x.beds.length b) W' := by
  have HJ := Lib.hid hJ
  have HY := Lib.hid hY
  have HN := Lib.hid hN
  have HX := Lib.hid hx
  obtain ⟨hc, _, _⟩ := hJ 0 W hW
  have b0 := hc.at 0 (v := vi b) rfl
  obtain ⟨lo, hlo⟩ : ∃ lo : Int, lo = ((loN b : Nat) : Int) := ⟨_, rfl⟩
  obtain ⟨m, hm⟩ : ∃ m, m = cntN x.beds.length b := ⟨_, rfl⟩
  obtain ⟨hi, hhi⟩ : ∃ hi : Int, hi = mnI ((x.beds.length : Int) - 1) ((b : Int) + 1) := ⟨_, rfl⟩
  have hlm : (lo = (b : Int) - 1 ∨ (lo = 0 ∧ b = 0)) ∧ 0 ≤ lo ∧ hi = lo + m - 1 ∧ hi ≤ 1000 ∧ lo ≤ 1000 := by
    have e : hi = min ((x.beds.length : Int) - 1) ((b : Int) + 1) := by rw [hhi]; unfold mnI; split <;> omega
    rw [hlo, hm, e]
    unfold loN cntN
    omega
  rw [← hlo] at HY
  rw [← hm] at HY ⊢
  have HHI := Lib.hid hhi
  have HLM := Lib.hid hlm
  have HBL := Lib.hid (And.intro hb hl)
  clear hJ hY hN hc hlo hm hhi hx
  refine callsIn_of_wp Try.func115 rfl trivial ?_ rfl
  simp only [Try.ntmps115, List.size_toArray, List.length_cons, List.length_nil, Nat.reduceAdd, Nat.reduceSub, Array.replicate_succ, Array.replicate_zero, List.push_toArray, List.append_toArray, List.nil_append, List.cons_append]
  gi_wp2_with fail
  all_goals
    clear b0
    gi_loopw [4] (fun s4 wr => ∃ k : Nat, k ≤ m ∧ s4 = vi (lo + k) ∧ J k wr) (fun s4 _ => (hi + 1 - intOf s4).toNat)
    case atStart =>
      refine ⟨0, Nat.zero_le _, ?_, hW⟩
      have h := HLM.out
      first
        | (rw [show lo + ((0 : Nat) : Int) = (b : Int) - 1 by omega])
        | (rw [show lo + ((0 : Nat) : Int) = 0 by omega])
    case round =>
      obtain ⟨k, hk, rfl, hj⟩ := hrel
      obtain ⟨wo, hwo⟩ : ∃ wo : World, wo = wr := ⟨_, rfl⟩
      rw [← hwo] at hj ⊢
      clear hwo wr
      have hj3 := HJ.out k _ hj
      have b0 := hj3.1.at 0 (v := vi b) rfl
      have l0 := hj3.2.1.at 0 (v := .slice s.a s.cs.length s.c) rfl
      have l1 := hj3.2.1.at 1 (v := vi s.least) rfl
      have l2 := hj3.2.1.at 2 (v := vi f) rfl
      have l3 := hj3.2.1.at 3 (v := .func (.func (trF t)) #[] #[]) rfl
      have HSM := Lib.hid hj3.2.2
      have HJK := Lib.hid hj
      have hlm := HLM.out
      have hbl := HBL.out
      have c11 : IntKind.i64.wrap ((x.beds.length : Int) - 1) = (x.beds.length : Int) - 1 := IntWalk.i64_in _ (by omega)
      have c13 : IntKind.i64.wrap ((b : Int) + 1) = (b : Int) + 1 := IntWalk.i64_in _ (by omega)
      clear hj3 hj hW
      by_cases hlt : k < m
      · have hle : lo + (k : Int) ≤ hi := by omega
        have wn : IntKind.i64.wrap (lo + (k : Int) + 1) = lo + (k : Int) + 1 := IntWalk.i64_in _ (by omega)
        gi_wp2_with fail
        refine outer_words (by kernel_rfl) (fun _ _ h => h) (region_told 7 (by kernel_rfl) (by kernel_rfl) (fun W => Below wo.heap.size wo W) newer (pickD [vIs (vi (lo + k)), vIs (lkV s f t), vIs (vi x.beds.length), vIs (vi ((x.beds.length : Int) - 1)), vIs (vi b), vIs (vi ((b : Int) + 1)), vIs (vi hi)]) (fun h k => newer_trans h k) (pickD_stable _ ⟨vIs_st, vIs_st, vIs_st, vIs_st, vIs_st, vIs_st, vIs_st, trivial⟩) (Below.refl _ wo).drew (Below.refl _ _) ?_ ?_)
        · refine ⟨?_, ?_, ?_, ?_, ?_, ?_, ?_, trivial⟩
          · intro a W hG hR hO hp
            have h4 := hO.slot 4 (by kernel_rfl)
            refine wp_yields (v := vi (lo + k)) ?_ ⟨_, rfl, rfl, Below.refl _ _, hG⟩
            simp [slotOf] at h4
            simp [execOp, go_sem, h4]
          · intro a W hG hR hO hp
            have h2 := hO.slot 2 (by kernel_rfl)
            have c0 := keep_cell l0 hG
            have c1 := keep_cell l1 hG
            have c2 := keep_cell l2 hG
            have c3 := keep_cell l3 hG
            refine wp_yields (v := lkV s f t) ?_ ⟨_, rfl, rfl, Below.refl _ _, hG⟩
            simp [slotOf] at h2
            simp [execOp, go_sem, h2, c0, c1, c2, c3]
          · intro a W hG hR hO hp
            have h9 : slotOf a 9 = lkV s f t := hp.1
            refine wp_enters (f := 81) (args := #[lkV s f t]) ?_ ((beds_any s f t x W (HSM.out.next hG) HX.out).mono ?_)
            · simp [slotOf] at h9
              simp [go_sem, h9]
            · rintro e w' ⟨rfl, hb⟩
              exact ⟨_, rfl, _, rfl, rfl, hb, below_next hG hb⟩
          · intro a W hG hR hO hp
            have h10 : slotOf a 10 = vi x.beds.length := hp.1
            refine wp_yields (v := vi ((x.beds.length : Int) - 1)) ?_ ⟨_, rfl, rfl, Below.refl _ _, hG⟩
            simp [slotOf] at h10
            simp [execOp, go_sem, h10, c11]
          · intro a W hG hR hO hp
            have h1 := hO.slot 1 (by kernel_rfl)
            have c0 := keep_cell b0 hG
            refine wp_yields (v := vi b) ?_ ⟨_, rfl, rfl, Below.refl _ _, hG⟩
            simp [slotOf] at h1
            simp [execOp, go_sem, h1, c0]
          · intro a W hG hR hO hp
            have h12 : slotOf a 12 = vi b := hp.1
            refine wp_yields (v := vi ((b : Int) + 1)) ?_ ⟨_, rfl, rfl, Below.refl _ _, hG⟩
            simp [slotOf] at h12
            simp [execOp, go_sem, h12, c13]
          · intro a W hG hR hO hp
            have h11 : slotOf a 11 = vi ((x.beds.length : Int) - 1) := hp.1
            have h13 : slotOf a 13 = vi ((b : Int) + 1) := hp.2.1
            refine wp_yields (v := vi hi) ?_ ⟨_, rfl, rfl, Below.refl _ _, hG⟩
            simp [slotOf] at h11 h13
            simp [go_sem, h11, h13, HHI.out, mnI]
        · intro wz hG hR
          rintro _ rfl _ rfl _ rfl _ rfl _ rfl _ rfl _ rfl
          change wpList _ _ _ _ _ _
          simp only [Act.put, List.setIfInBounds_toArray, List.set_cons_zero, List.set_cons_succ, List.drop_succ_cons, List.drop_zero]
          have hjz := HN.out k wo wz HJK.out hG
          have HYK := Lib.hid (HY.out k wz hlt hjz)
          clear hG hR hjz b0 l0 l1 l2 l3 c11 c13 HJK HSM
          obtain ⟨fn, tmps, assign, body, hy, hR⟩ := HYK.out
          go_wp2_with fail
          refine onlyN_intro ?_
          gi_wp2_with fail
          refine ⟨fun h => (by cases h), hR.mono ?_⟩
          clear hy hR
          rintro e w3 ⟨rfl, hj3⟩
          gi_wp2_with fail
          go_roundw
          case rel => exact ⟨k + 1, by omega, by rw [show lo + ((k + 1 : Nat) : Int) = lo + k + 1 by omega], hj3⟩
          case measure => simp [intOf]; omega
      · have hle : ¬ (lo + (k : Int) ≤ hi) := by omega
        obtain rfl : k = m := by omega
        gi_wp2_with fail
        refine outer_words (by kernel_rfl) (fun _ _ h => h) (region_told 7 (by kernel_rfl) (by kernel_rfl) (fun W => Below wo.heap.size wo W) newer (pickD [vIs (vi (lo + k)), vIs (lkV s f t), vIs (vi x.beds.length), vIs (vi ((x.beds.length : Int) - 1)), vIs (vi b), vIs (vi ((b : Int) + 1)), vIs (vi hi)]) (fun h k => newer_trans h k) (pickD_stable _ ⟨vIs_st, vIs_st, vIs_st, vIs_st, vIs_st, vIs_st, vIs_st, trivial⟩) (Below.refl _ wo).drew (Below.refl _ _) ?_ ?_)
        · refine ⟨?_, ?_, ?_, ?_, ?_, ?_, ?_, trivial⟩
          · intro a W hG hR hO hp
            have h4 := hO.slot 4 (by kernel_rfl)
            refine wp_yields (v := vi (lo + k)) ?_ ⟨_, rfl, rfl, Below.refl _ _, hG⟩
            simp [slotOf] at h4
            simp [execOp, go_sem, h4]
          · intro a W hG hR hO hp
            have h2 := hO.slot 2 (by kernel_rfl)
            have c0 := keep_cell l0 hG
            have c1 := keep_cell l1 hG
            have c2 := keep_cell l2 hG
            have c3 := keep_cell l3 hG
            refine wp_yields (v := lkV s f t) ?_ ⟨_, rfl, rfl, Below.refl _ _, hG⟩
            simp [slotOf] at h2
            simp [execOp, go_sem, h2, c0, c1, c2, c3]
          · intro a W hG hR hO hp
            have h9 : slotOf a 9 = lkV s f t := hp.1
            refine wp_enters (f := 81) (args := #[lkV s f t]) ?_ ((beds_any s f t x W (HSM.out.next hG) HX.out).mono ?_)
            · simp [slotOf] at h9
              simp [go_sem, h9]
            · rintro e w' ⟨rfl, hb⟩
              exact ⟨_, rfl, _, rfl, rfl, hb, below_next hG hb⟩
          · intro a W hG hR hO hp
            have h10 : slotOf a 10 = vi x.beds.length := hp.1
            refine wp_yields (v := vi ((x.beds.length : Int) - 1)) ?_ ⟨_, rfl, rfl, Below.refl _ _, hG⟩
            simp [slotOf] at h10
            simp [execOp, go_sem, h10, c11]
          · intro a W hG hR hO hp
            have h1 := hO.slot 1 (by kernel_rfl)
            have c0 := keep_cell b0 hG
            refine wp_yields (v := vi b) ?_ ⟨_, rfl, rfl, Below.refl _ _, hG⟩
            simp [slotOf] at h1
            simp [execOp, go_sem, h1, c0]
          · intro a W hG hR hO hp
            have h12 : slotOf a 12 = vi b := hp.1
            refine wp_yields (v := vi ((b : Int) + 1)) ?_ ⟨_, rfl, rfl, Below.refl _ _, hG⟩
            simp [slotOf] at h12
            simp [execOp, go_sem, h12, c13]
          · intro a W hG hR hO hp
            have h11 : slotOf a 11 = vi ((x.beds.length : Int) - 1) := hp.1
            have h13 : slotOf a 13 = vi ((b : Int) + 1) := hp.2.1
            refine wp_yields (v := vi hi) ?_ ⟨_, rfl, rfl, Below.refl _ _, hG⟩
            simp [slotOf] at h11 h13
            simp [go_sem, h11, h13, HHI.out, mnI]
        · intro wz hG hR
          rintro _ rfl _ rfl _ rfl _ rfl _ rfl _ rfl _ rfl
          change wpList _ _ _ _ _ _
          simp only [Act.put, List.setIfInBounds_toArray, List.set_cons_zero, List.set_cons_succ, List.drop_succ_cons, List.drop_zero]
          have HE := Lib.hid (HN.out _ wo wz HJK.out hG)
          clear hG hR b0 l0 l1 l2 l3 c11 c13 HJK HSM
          go_wp2_with fail
          refine onlyN_intro ?_
          gi_wp2_with fail
          go_end0
          exact ⟨⟨_, rfl⟩, HE.out⟩

end Go.Proofs.Ytkenokpobbichaa
