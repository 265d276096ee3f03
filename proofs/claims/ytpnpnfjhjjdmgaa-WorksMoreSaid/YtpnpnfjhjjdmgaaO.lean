/- Clone; the years of a work. -/
import Derived.Test.YtpnpnfjhjjdmgaaN
import Derived.RangeFuncBound
import Derived.Shelf.Abstract
import Derived.Shelf.RegionOpen
import Derived.OwnWalkIn
import Derived.TacticsInMore
import Derived.LoopNIn
import Derived.LoopIn
namespace Go.Proofs.Ytpnpnfjhjjdmgaa
open Go.RowKit Go.Shelf Go.Deep

set_option maxRecDepth 100000 in
set_option maxHeartbeats 2000000 in
theorem clone_any (l : List Int) (A : Option Addr) (cp base : Nat) (w : World) (hl : l.length ≤ 1000) (ho : w.ownsRow base 3 1 (.slice A l.length cp) l.length (l.map vi)) (h0 : l = [] → A = none) :
    Calls Try.prog 68 #[.slice A l.length cp] w fun e w' => ∃ B c, e = .returned (.slice B l.length c) ∧ w'.ownsRow w.heap.size 3 1 (.slice B l.length c) l.length (l.map vi) ∧ newer w w' ∧ (l = [] → B = none) := by
  have hnil : ∀ (W : World) (A : Option Addr) (n c : Nat), (binOp .eql 25 (.slice A n c) (.slice none 0 0)).run Try.prog W = .ok (.bool A.isNone) W := fun W A n c => by
    simp only [binOp]
    simp [run_equal_slice_nil W 25 3 A n c Try.underlying25]
  by_cases hn : l = []
  · subst hn
    rw [h0 rfl]
    go_enter Try.func68, Try.ntmps68
    go_wp2_with fail
    go_ret
    exact ⟨none, 0, rfl, ⟨rfl, .inl ⟨rfl, rfl⟩⟩, Below.refl _ _, by simp⟩
  · have hpos : 0 < l.length := List.length_pos_iff.2 hn
    obtain ⟨g, cap, hv, _, hg⟩ := ho.form hpos
    injection hv with hA _ hc
    subst hA
    clear hc cap
    have hcell : ∀ (o : Obj) (j : Nat) (u : Value), (l.map vi)[j]? = some u → (w.alloc o).cell? ((⟨g, 0, none⟩ : Addr).add j) = some u := by
      intro o j u hu
      have hj : j < l.length := by have := (List.getElem?_eq_some_iff.1 hu).1; simpa using this
      rw [add_row, Nat.zero_add]
      have := ho.cellAt j (by omega)
      rw [cell_alloc (v := u) (by rw [this]; exact hu) o]
    have HC := Lib.hid hcell
    have HB := Lib.hid (newer_allocH w (.cells #[] 3))
    obtain ⟨i0, hi0, hz0, hz1, hz2⟩ := info_parts Try.info3w
    have HI := Lib.hid (And.intro hi0 (And.intro hz0 (And.intro hz1 hz2)))
    have HN := Lib.hid hn
    have HP := Lib.hid hpos
    clear hcell hi0 hz0 hz1 hz2 hn ho h0 hpos
    go_enter Try.func68, Try.ntmps68
    go_wp2_with (at_builtin; go_loud ((refine wpList_plain rfl fun _ hK => wp_append_new (.tmp 5) (.tmp 6) 25 rfl 3 i0 (.int .i64 0) 1 8 Try.underlying25 HI.out.1 HI.out.2.1 HI.out.2.2.1 HI.out.2.2.2 rfl (by omega) ⟨w.heap.size, 0, none⟩ rfl ⟨g, 0, none⟩ l.length cp (l.map vi) rfl (by simp) (HC.out _) HP.out (by unfold maxLen; omega) (by omega) fun gg cp' w' hown hbl => hK _ _ ?_); have HE := Lib.hid (And.intro (own_more hown (by simp) : w'.ownsRow w.heap.size 3 1 (.slice (some ⟨gg, 0, none⟩) l.length cp') l.length (l.map vi)) (HB.out.trans (hbl.mono (by simp)))); clear hown hbl))
    go_ret
    exact ⟨_, _, rfl, HE.out.1, HE.out.2, fun e => absurd e HN.out⟩
set_option maxHeartbeats 400000 in
theorem years_any (x : Wk) (w : World) :
    Calls Try.prog 63 #[wkV x] w fun e w' => e = .returned (.func (.func 84) #[] #[.pointer (some ⟨w.heap.size, 0, none⟩)]) ∧ w.alloc (.cells (wkC x) 87) = w' := by
  go_enter Try.func63, Try.ntmps63
  go_wp2
  go_ret
  exact ⟨rfl, rfl⟩
def yearsN (x : Wd) : Nat := (x.last + 1 - x.first).toNat
attribute [local go_sem] Oper.semAt_some
set_option maxRecDepth 100000 in
set_option maxHeartbeats 2000000 in
theorem years_in (n l c : Nat) (x : Wk) (h0 : 0 ≤ x.d.first) (h1 : x.d.first ≤ x.d.last) (h2 : x.d.last ≤ 1000) (J : Nat → World → Prop)
    (hJ : ∀ k W, J k W → Whole W c 87 (wkC x))
    (hY : ∀ k W, k < yearsN x.d → J k W → YieldAt Fence.wide (n - 1) Try.prog l #[vi (x.d.first + k)] W fun e W'' => e = .returned (.bool true) ∧ J (k + 1) W'')
    (W : World) (hW : J 0 W) :
    CallsIn Fence.wide n Try.prog 84 #[.func (.yield l) #[] #[], .pointer (some ⟨c, 0, none⟩)] W fun e W' => (∃ v, e = .returned v) ∧ J (yearsN x.d) W' := by
  have HJ := Lib.hid hJ
  have HY := Lib.hid hY
  have hc := hJ 0 W hW
  have c1 := hc.at 1 (v := vi x.d.first) rfl
  have hyn : (yearsN x.d : Int) = x.d.last + 1 - x.d.first := by unfold yearsN; omega
  have HYN := Lib.hid hyn
  obtain ⟨m, hm⟩ : ∃ m, m = yearsN x.d := ⟨_, rfl⟩
  rw [← hm] at hyn
  obtain ⟨f, hf⟩ : ∃ f, f = x.d.first := ⟨_, rfl⟩
  obtain ⟨t, ht⟩ : ∃ t, t = x.d.last := ⟨_, rfl⟩
  rw [← hf] at c1 hyn h0 h1
  rw [← ht] at hyn h1 h2
  have HM := Lib.hid (And.intro hm (And.intro hf ht))
  clear hJ hY hc hm hf ht
  refine callsIn_of_wp Try.func84 rfl trivial ?_ rfl
  simp only [Try.ntmps84, List.size_toArray, List.length_cons, List.length_nil, Nat.reduceAdd, Nat.reduceSub, Array.replicate_succ, Array.replicate_zero, List.push_toArray, List.append_toArray, List.nil_append, List.cons_append]
  gi_wp2_with fail
  clear c1
  gi_loopw [3] (fun s3 wr => ∃ k : Nat, k ≤ m ∧ s3 = vi (f + k) ∧ J k wr) (fun s3 _ => (t + 1 - intOf s3).toNat)
  case atStart => exact ⟨0, Nat.zero_le _, by simp, hW⟩
  case round =>
    obtain ⟨k, hk, rfl, hj⟩ := hrel
    have hw1 := HJ.out k _ hj
    have c2 := hw1.at 2 (v := vi x.d.last) rfl
    rw [← HM.out.2.2] at c2
    by_cases hlt : k < m
    · have hle : f + (k : Int) ≤ t := by omega
      have wn : IntKind.i64.wrap (f + (k : Int) + 1) = f + (k : Int) + 1 := IntWalk.i64_in _ (by omega)
      have hy := HY.out k wr (by rw [← HM.out.1]; exact hlt) hj
      rw [← HM.out.2.1] at hy
      have HYK := Lib.hid hy
      clear hw1 hj hy hW
      obtain ⟨fn, tmps, assign, body, hy, hR⟩ := HYK.out
      gi_wp2_with fail
      refine ⟨fun h => (by cases h), hR.mono ?_⟩
      clear hy hR c2
      rintro e w3 ⟨rfl, hj3⟩
      gi_wp2_with fail
      go_roundw
      case rel => exact ⟨k + 1, by omega, by rw [show f + ((k + 1 : Nat) : Int) = f + k + 1 by omega], hj3⟩
      case measure => simp [intOf]; omega
    · have hkm : k = m := by omega
      have hle : ¬ (f + (k : Int) ≤ t) := by omega
      have HE := Lib.hid ((hkm.trans HM.out.1) ▸ hj)
      clear hw1 hj hkm hW
      gi_wp2_with fail
      all_goals
        refine ⟨fun _ h => (by cases h), ?_⟩
        gi_wp2_with fail
        go_end0
        exact ⟨⟨_, rfl⟩, HE.out⟩
end Go.Proofs.Ytpnpnfjhjjdmgaa
