/- Whether the purses pay for what is spent. -/
import Derived.Test.YtpnpnfjhjjdmgaaJ
namespace Go.Proofs.Ytpnpnfjhjjdmgaa
open Go.RowKit

theorem Row.take {α : Type} {enc : α → List Value} {s B : Nat} {w : World} {A : Option Addr} {l : List α} (h : Row enc s w B A l) (k : Nat) : Row enc s w B A (l.take k) := by
  intro hne
  obtain ⟨b, off, e, hb, hc⟩ := h (by rintro rfl; simp at hne)
  refine ⟨b, off, e, hb, fun j x hx => hc j x ?_⟩
  rw [List.getElem?_take] at hx
  split at hx
  · exact hx
  · cases hx
/-- Do the purses pay? -/
def paidB (ps sp : List Int) : Bool := (List.range ps.length).all fun y => decide ((sp.take (y + 1)).sum ≤ (ps.take (y + 1)).sum)
abbrev sp5 (f : List Int) : Array Value := #[vi (iAt f 0), vi (iAt f 1), vi (iAt f 2), vi (iAt f 3), vi (iAt f 4)]
theorem sp5_row {f : List Int} (h : f.length = 5) : (sp5 f).toList = f.flatMap intL := by
  match f, h with
  | [a, b, c, d, e], _ => rfl
theorem take_bd {l : List Int} {B : Int} (h : ∀ x ∈ l, 0 ≤ x ∧ x ≤ B) (k : Nat) : ∀ x ∈ l.take k, 0 ≤ x ∧ x ≤ B := fun x hx => h x (List.mem_of_mem_take hx)
set_option maxRecDepth 100000 in
set_option maxHeartbeats 2000000 in
theorem paid_any (p : Pm) (sp : List Int) (w : World) (hok : PmOk p w) (hp5 : p.ps.length ≤ 5) (hs5 : sp.length = 5) (hsb : ∀ x ∈ sp, 0 ≤ x ∧ x ≤ 1000000000) (hpb : ∀ x ∈ p.ps, 0 ≤ x ∧ x ≤ 1000000000) (hpc : p.ps.length ≤ p.pc) :
    Calls Try.prog 65 #[pmV p, .agg (sp5 sp)] w fun e w' => e = .returned (.bool (paidB p.ps sp)) ∧ newer w w' := by
  have hnw := newer_trans (newer_allocH w (.cells (pmC p) 35)) (newer_allocH (w.alloc (.cells (pmC p) 35)) (.cells (sp5 sp) 109))
  have hb1 := (Whole.made w 35 (pmC p)).alloc (.cells (sp5 sp) 109)
  have hb2 := Whole.made (w.alloc (.cells (pmC p) 35)) 109 (sp5 sp)
  simp only [World.size_alloc] at hb2
  have HW := Lib.hid (And.intro hnw (And.intro hb1 hb2))
  have HOK := Lib.hid hok
  have HB := Lib.hid (And.intro hs5 (And.intro hsb hpb))
  clear hnw hb1 hb2 hok hsb hpb hs5
  unfold paidB
  go_enter Try.func65, Try.ntmps65
  go_wp2_with fail
  go_loopw [9] (fun s9 wr => ∃ k : Nat, k ≤ p.ps.length ∧ s9 = .int .i64 k ∧ newer w wr ∧ Whole wr w.heap.size 35 (pmC p) ∧ Whole wr (w.heap.size + 1) 109 (sp5 sp) ∧ early (fun y => !decide ((sp.take (y + 1)).sum ≤ (p.ps.take (y + 1)).sum)) (List.range p.ps.length) k) (fun s9 _ => p.ps.length - (intOf s9).toNat)
  case atStart => exact ⟨0, Nat.zero_le _, rfl, HW.out.1, HW.out.2.1, HW.out.2.2, early_zero _ _⟩
  case round =>
    obtain ⟨k, hk, rfl, hbw, hbx, hby, he⟩ := hrel
    have HE := Lib.hid he
    clear he HW
    by_cases hlt : k < p.ps.length
    · have hkn : (k : Int) < p.ps.length := by omega
      have hk5 : (k : Int) + 1 ≤ 5 := by omega
      have hk6 : (0 : Int) ≤ (k : Int) + 1 := by omega
      have hk7 : (k : Int) + 1 ≤ p.pc := by omega
      have hk9 : ¬ ((k : Int) + 1 < 0) := by omega
      have wk1 : IntKind.i64.wrap ((k : Int) + 1) = (k : Int) + 1 := IntWalk.i64_in _ (by omega)
      obtain ⟨y, hy⟩ := get_of_lt hlt
      obtain ⟨b2, o2, e2, _, _⟩ := row1 (HOK.out.next hbw).ps hy
      have z5 := hbx.at 5 (v := .slice p.pa p.ps.length p.pc) rfl
      rw [e2] at z5
      have hr1 : Row intL 1 wr wr.heap.size (some ⟨w.heap.size + 1, 0, none⟩) sp := row_of_whole (enc := intL) (s := 1) (fun _ => rfl) hby (sp5_row HB.out.1)
      have hr2 := (HOK.out.next hbw).ps
      rw [e2] at hr2
      have hl1 : (sp.take (k + 1)).length = k + 1 := by rw [List.length_take, HB.out.1]; omega
      have hl2 : (p.ps.take (k + 1)).length = k + 1 := by rw [List.length_take]; omega
      have HS1 : Hid (∀ W, newer wr W → Calls Try.prog 85 #[.slice (some ⟨w.heap.size + 1, 0, none⟩) (k + 1) 5] W fun e w' => e = .returned (vi (sp.take (k + 1)).sum) ∧ newer W w') := Lib.hid fun W hW => by
        have h := sum_any (sp.take (k + 1)) (some ⟨w.heap.size + 1, 0, none⟩) 5 W (by omega) (take_bd HB.out.2.1 _) ((hr1.take _).below hW |>.more hW.size)
        rw [hl1] at h
        exact h
      have HS2 : Hid (∀ W, newer wr W → Calls Try.prog 85 #[.slice (some ⟨b2, o2, none⟩) (k + 1) p.pc] W fun e w' => e = .returned (vi (p.ps.take (k + 1)).sum) ∧ newer W w') := Lib.hid fun W hW => by
        have h := sum_any (p.ps.take (k + 1)) (some ⟨b2, o2, none⟩) p.pc W (by omega) (take_bd HB.out.2.2 _) ((hr2.take _).below hW |>.more hW.size)
        rw [hl2] at h
        exact h
      obtain ⟨s1, hs1⟩ : ∃ s1, s1 = (sp.take (k + 1)).sum := ⟨_, rfl⟩
      obtain ⟨s2, hs2⟩ : ∃ s2, s2 = (p.ps.take (k + 1)).sum := ⟨_, rfl⟩
      rw [← hs1] at HS1
      rw [← hs2] at HS2
      have HK := Lib.hid (And.intro hs1 (And.intro hs2 (show (List.range p.ps.length)[k]? = some k from List.getElem?_range hlt)))
      have HBW := Lib.hid (And.intro hbw (And.intro hbx hby))
      clear e2 hr1 hr2 hl1 hl2 hs1 hs2 hbw hbx hby hy
      go_upto_region 4 with fail
      refine wp_words (by kernel_rfl) (region_told 10 (by kernel_rfl) (by kernel_rfl) (fun W => Below wr.heap.size wr W) newer (pickD [vIs (.int .i64 k), vIs (.int .i64 (k + 1)), vIs (.slice (some ⟨w.heap.size + 1, 0, none⟩) (k + 1) 5), vIs (vi s1), vIs (.pointer (some ⟨w.heap.size, 5, none⟩)), vIs (.slice (some ⟨b2, o2, none⟩) p.ps.length p.pc), vIs (.int .i64 k), vIs (.int .i64 (k + 1)), vIs (.slice (some ⟨b2, o2, none⟩) (k + 1) p.pc), vIs (vi s2)]) (fun h k => newer_trans h k) (pickD_stable _ ⟨vIs_st, vIs_st, vIs_st, vIs_st, vIs_st, vIs_st, vIs_st, vIs_st, vIs_st, vIs_st, trivial⟩) (Below.refl _ wr).drew (Below.refl _ _) ?_ ?_)
      · refine ⟨?_, ?_, ?_, ?_, ?_, ?_, ?_, ?_, ?_, ?_, trivial⟩
        · intro a W hG hR hO hp
          have h5 := hO.slot 5 (by kernel_rfl)
          refine wp_yields (v := .int .i64 k) ?_ ⟨_, rfl, rfl, Below.refl _ _, hG⟩
          simp [slotOf] at h5
          simp [execOp, go_sem, h5]
        · intro a W hG hR hO hp
          have h12 : slotOf a 12 = .int .i64 k := hp.1
          refine wp_yields (v := .int .i64 (k + 1)) ?_ ⟨_, rfl, rfl, Below.refl _ _, hG⟩
          simp [slotOf] at h12
          simp [execOp, go_sem, h12, wk1]
        · intro a W hG hR hO hp
          have h3 := hO.slot 3 (by kernel_rfl)
          have h13 : slotOf a 13 = .int .i64 (k + 1) := hp.1
          refine wp_yields (v := .slice (some ⟨w.heap.size + 1, 0, none⟩) (k + 1) 5) ?_ ⟨_, rfl, rfl, Below.refl _ _, hG⟩
          simp [slotOf] at h3 h13
          simp [execOp, go_sem, h3, h13, hk5, hk6]
        · intro a W hG hR hO hp
          have h14 : slotOf a 14 = .slice (some ⟨w.heap.size + 1, 0, none⟩) (k + 1) 5 := hp.1
          refine wp_enters (f := 85) (args := #[.slice (some ⟨w.heap.size + 1, 0, none⟩) (k + 1) 5]) ?_ ((HS1.out W hG).mono ?_)
          · simp [slotOf] at h14
            simp [go_sem, h14]
          · rintro e w' ⟨rfl, hb⟩
            exact ⟨_, rfl, _, rfl, rfl, hb, below_next hG hb⟩
        · intro a W hG hR hO hp
          have h2 := hO.slot 2 (by kernel_rfl)
          refine wp_yields (v := .pointer (some ⟨w.heap.size, 5, none⟩)) ?_ ⟨_, rfl, rfl, Below.refl _ _, hG⟩
          simp [slotOf] at h2
          simp [execOp, go_sem, h2]
        · intro a W hG hR hO hp
          have h16 : slotOf a 16 = .pointer (some ⟨w.heap.size, 5, none⟩) := hp.1
          have c0 := keep_cell z5 hG
          refine wp_yields (v := .slice (some ⟨b2, o2, none⟩) p.ps.length p.pc) ?_ ⟨_, rfl, rfl, Below.refl _ _, hG⟩
          simp [slotOf] at h16
          simp [execOp, go_sem, h16, c0]
        · intro a W hG hR hO hp
          have h5 := hO.slot 5 (by kernel_rfl)
          refine wp_yields (v := .int .i64 k) ?_ ⟨_, rfl, rfl, Below.refl _ _, hG⟩
          simp [slotOf] at h5
          simp [execOp, go_sem, h5]
        · intro a W hG hR hO hp
          have h18 : slotOf a 18 = .int .i64 k := hp.1
          refine wp_yields (v := .int .i64 (k + 1)) ?_ ⟨_, rfl, rfl, Below.refl _ _, hG⟩
          simp [slotOf] at h18
          simp [execOp, go_sem, h18, wk1]
        · intro a W hG hR hO hp
          have h17 : slotOf a 17 = .slice (some ⟨b2, o2, none⟩) p.ps.length p.pc := hp.1
          have h19 : slotOf a 19 = .int .i64 (k + 1) := hp.2.1
          refine wp_yields (v := .slice (some ⟨b2, o2, none⟩) (k + 1) p.pc) ?_ ⟨_, rfl, rfl, Below.refl _ _, hG⟩
          simp [slotOf] at h17 h19
          simp [execOp, go_sem, h17, h19, hk7, hk9]
        · intro a W hG hR hO hp
          have h20 : slotOf a 20 = .slice (some ⟨b2, o2, none⟩) (k + 1) p.pc := hp.1
          refine wp_enters (f := 85) (args := #[.slice (some ⟨b2, o2, none⟩) (k + 1) p.pc]) ?_ ((HS2.out W hG).mono ?_)
          · simp [slotOf] at h20
            simp [go_sem, h20]
          · rintro e w' ⟨rfl, hb⟩
            exact ⟨_, rfl, _, rfl, rfl, hb, below_next hG hb⟩
      · intro W hG hR
        rintro _ rfl _ rfl _ rfl _ rfl _ rfl _ rfl _ rfl _ rfl _ rfl _ rfl
        change wpList _ _ _ _ _ _
        simp only [Act.put, List.setIfInBounds_toArray, List.set_cons_zero, List.set_cons_succ, List.drop_succ_cons, List.drop_zero]
        have HF := Lib.hid (And.intro (newer_trans HBW.out.1 hG) (And.intro (HBW.out.2.1.below hG HBW.out.2.1.lt) (HBW.out.2.2.below hG HBW.out.2.2.lt)))
        clear hG hR HBW z5
        by_cases hlo : s2 < s1
        · go_wp2_with fail
          go_ret
          refine ⟨ret_bool (all_bad HK.out.2.2 ?_).symm, HF.out.1⟩
          rw [← HK.out.1, ← HK.out.2.1]
          exact decide_eq_false (by omega)
        · go_wp2_with fail
          go_roundw
          case rel =>
            refine ⟨k + 1, by omega, by go_num, HF.out.1, HF.out.2.1, HF.out.2.2, early_succ HE.out HK.out.2.2 ?_⟩
            rw [← HK.out.1, ← HK.out.2.1, decide_eq_true (by omega : s1 ≤ s2)]
            rfl
          case measure => simp [intOf]; omega
    · obtain rfl : k = p.ps.length := by omega
      have hkn : ¬ ((p.ps.length : Int) < p.ps.length) := by omega
      go_wp2_with fail
      go_ret
      exact ⟨ret_bool (all_early (by rw [List.length_range]; exact HE.out)).symm, hbw⟩
end Go.Proofs.Ytpnpnfjhjjdmgaa
