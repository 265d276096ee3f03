/- LearnFault: the reference's error of readings. -/
import Derived.Test.YteonkhohloabfaaBQ
import Derived.Test.YteonkhohloabfaaL5
namespace Go.Proofs.Yteonkhohloabfaa
open Go.RowKit

/-- The error of readings, on a valid ground with days. -/
def lnF (g : Gnd) (days : List Day) (l : List Rdg) : Int :=
  if 30 < l.length then 3 else if l.all (rdgB g.cells.length days.length) = true then (if knownB g days = true then 0 else 8) else 2
theorem take_all_succ {α : Type} {l : List α} {k : Nat} {c : α} (p : α → Bool) (h : l[k]? = some c) : (l.take (k + 1)).all p = ((l.take k).all p && p c) := by
  rw [List.take_add_one, h, List.all_append]
  simp
set_option maxRecDepth 100000 in
set_option maxHeartbeats 2000000 in
theorem learnFault_any (g : Gnd) (A : Option Addr) (ap : Nat) (days : List Day) (D : Option Addr) (dp : Nat) (l : List Rdg) (R : Option Addr) (rp : Nat) (w : World) (hn : g.cells.length ≤ 1000) (hm : days.length ≤ 1000) (hl : l.length ≤ 1000)
    (hc : Row cellL 7 w w.heap.size A g.cells) (hd : Row dayL 3 w w.heap.size D days) (hr : Row rdgL 4 w w.heap.size R l) :
    Calls Try.prog 44 #[gndV A ap g, .slice D days.length dp, .slice R l.length rp] w fun e w' => e = .returned (vi (lnF g days l)) ∧ newer w w' := by
  have HC := Lib.hid hc
  have HD := Lib.hid hd
  have HR := Lib.hid hr
  clear hc hd hr
  unfold lnF
  by_cases hlen : 30 < l.length
  · have hli : (30 : Int) < l.length := by omega
    rw [if_pos hlen]
    clear hlen
    go_enter Try.func44, Try.ntmps44
    go_wp2_with fail
    go_ret
    exact ⟨rfl, (Below.refl _ _).alloc (Nat.le_refl _) _⟩
  · have hli : ¬ ((30 : Int) < l.length) := by omega
    rw [if_neg hlen]
    clear hlen
    obtain ⟨er, her⟩ : ∃ er : Int, er = if l.all (rdgB g.cells.length days.length) = true then (if knownB g days = true then 0 else 8) else 2 := ⟨_, rfl⟩
    rw [← her]
    have HE := Lib.hid her
    clear her
    have hw1 : IntKind.i64.wrap ((g.cells.length : Int) - 1) = (g.cells.length : Int) - 1 := IntWalk.i64_in _ (by omega)
    have hw2 : IntKind.i64.wrap ((days.length : Int) - 1) = (days.length : Int) - 1 := IntWalk.i64_in _ (by omega)
    have HW := Lib.hid (And.intro hw1 hw2)
    clear hw1 hw2
    have HB := Lib.hid (And.intro ((Below.refl w.heap.size w).alloc (Nat.le_refl _) (.cells (gndC A ap g) 26)) (Whole.made w 26 (gndC A ap g)))
    go_enter Try.func44, Try.ntmps44
    go_wp2_with fail
    go_loopw [7] (fun s7 wr => ∃ k : Nat, k ≤ l.length ∧ s7 = .int .i64 k ∧ (Below w.heap.size w wr ∧ Whole wr w.heap.size 26 (gndC A ap g)) ∧ (l.take k).all (rdgB g.cells.length days.length) = true) (fun s7 _ => l.length - (intOf s7).toNat)
    case atStart => exact ⟨0, Nat.zero_le _, rfl, HB.out, rfl⟩
    case round =>
      obtain ⟨k, hk, rfl, hx, hall⟩ := hrel
      clear HB
      have HX := Lib.hid hx
      have HA := Lib.hid hall
      clear hall
      by_cases hlt : k < l.length
      · obtain ⟨d, hdk⟩ := get_of_lt hlt
        obtain ⟨b, off, rfl, hb, q0, q1, q2, q3⟩ := row4 (HR.out.below hx.1) hdk
        have hkn : (k : Int) < l.length := by omega
        have e0 := hx.2.at 0 rfl
        have HDK := Lib.hid hdk
        obtain ⟨hw1, hw2⟩ := HW.out
        clear hx hdk
        have HI1' : ∀ W, Calls Try.prog 27 #[vi d.cell, vi 0, vi ((g.cells.length : Int) - 1)] W fun e w' => e = .returned (.bool (inB d.cell 0 ((g.cells.length : Int) - 1))) ∧ W = w' := fun W => in_any _ _ _ W
        have HI2' : ∀ W, Calls Try.prog 27 #[vi d.day, vi 0, vi ((days.length : Int) - 1)] W fun e w' => e = .returned (.bool (inB d.day 0 ((days.length : Int) - 1))) ∧ W = w' := fun W => in_any _ _ _ W
        cases hb1 : inB d.cell 0 ((g.cells.length : Int) - 1) with
        | false =>
          rw [hb1] at HI1'
          have HI1 := Lib.hid HI1'
          have he : er = 2 := by
            rw [HE.out, if_neg]
            intro h
            have := List.all_eq_true.1 h d (List.mem_of_getElem? HDK.out)
            simp [rdgB, hb1] at this
          subst he
          clear HI1' HI2' hb1
          go_wp2_with fail
          refine wp_words (by kernel_rfl) (region_told_s 31 (by kernel_rfl) (by kernel_rfl) [false, false, false, false, false, false, false, false, false, false, false, false, true, true, true, true, true, true, true, true, true, true, false, false, true, true, true, true, true, true, true] (fun W => Below wr.heap.size wr W) newer [vIs (.slice (some ⟨b, off, none⟩) l.length rp), vIs (.int .i64 k), vIs (.pointer (some ⟨b, off + k * 4, none⟩)), vIs (.pointer (some ⟨b, off + k * 4, none⟩)), vIs (vi d.cell), vIs (.pointer (some ⟨w.heap.size, 0, none⟩)), vIs (.slice A g.cells.length ap), vIs (vi g.cells.length), vIs (vi ((g.cells.length : Int) - 1)), vIs (.bool false), vIs (.bool true), vIs (.bool true), fun _ _ => True, fun _ _ => True, fun _ _ => True, fun _ _ => True, fun _ _ => True, fun _ _ => True, fun _ _ => True, fun _ _ => True, fun _ _ => True, fun _ _ => True, vIs (.bool true), vIs (.bool true), fun _ _ => True, fun _ _ => True, fun _ _ => True, fun _ _ => True, fun _ _ => True, fun _ _ => True, fun _ _ => True] ⟨rfl, rfl, rfl, rfl, rfl, rfl, rfl, rfl, rfl, rfl, rfl, rfl, (fun _ _ h => h), (fun _ _ h => h), (fun _ _ h => h), (fun _ _ h => h), (fun _ _ h => h), (fun _ _ h => h), (fun _ _ h => h), (fun _ _ h => h), (fun _ _ h => h), (fun _ _ h => h), rfl, rfl, (fun _ _ h => h), (fun _ _ h => h), (fun _ _ h => h), (fun _ _ h => h), (fun _ _ h => h), (fun _ _ h => h), (fun _ _ h => h), trivial⟩ ⟨(fun h => absurd h (by decide)), (fun h => absurd h (by decide)), (fun h => absurd h (by decide)), (fun h => absurd h (by decide)), (fun h => absurd h (by decide)), (fun h => absurd h (by decide)), (fun h => absurd h (by decide)), (fun h => absurd h (by decide)), (fun h => absurd h (by decide)), (fun h => absurd h (by decide)), (fun h => absurd h (by decide)), (fun h => absurd h (by decide)), (fun _ _ _ => trivial), (fun _ _ _ => trivial), (fun _ _ _ => trivial), (fun _ _ _ => trivial), (fun _ _ _ => trivial), (fun _ _ _ => trivial), (fun _ _ _ => trivial), (fun _ _ _ => trivial), (fun _ _ _ => trivial), (fun _ _ _ => trivial), (fun h => absurd h (by decide)), (fun h => absurd h (by decide)), (fun _ _ _ => trivial), (fun _ _ _ => trivial), (fun _ _ _ => trivial), (fun _ _ _ => trivial), (fun _ _ _ => trivial), (fun _ _ _ => trivial), (fun _ _ _ => trivial), trivial⟩ (fun h k => newer_trans h k) (pickD_stable _ ⟨vIs_st, vIs_st, vIs_st, vIs_st, vIs_st, vIs_st, vIs_st, vIs_st, vIs_st, vIs_st, vIs_st, vIs_st, fun _ _ _ h _ => h, fun _ _ _ h _ => h, fun _ _ _ h _ => h, fun _ _ _ h _ => h, fun _ _ _ h _ => h, fun _ _ _ h _ => h, fun _ _ _ h _ => h, fun _ _ _ h _ => h, fun _ _ _ h _ => h, fun _ _ _ h _ => h, vIs_st, vIs_st, fun _ _ _ h _ => h, fun _ _ _ h _ => h, fun _ _ _ h _ => h, fun _ _ _ h _ => h, fun _ _ _ h _ => h, fun _ _ _ h _ => h, fun _ _ _ h _ => h, trivial⟩) (Below.refl _ wr).drew (Below.refl _ _) ?_ ?_)
          · refine ⟨.inr ?_, .inr ?_, .inr ?_, .inr ?_, .inr ?_, .inr ?_, .inr ?_, .inr ?_, .inr ?_, .inr ?_, .inr ?_, .inr ?_, .inl rfl, .inl rfl, .inl rfl, .inl rfl, .inl rfl, .inl rfl, .inl rfl, .inl rfl, .inl rfl, .inl rfl, .inr ?_, .inr ?_, .inl rfl, .inl rfl, .inl rfl, .inl rfl, .inl rfl, .inl rfl, .inl rfl, trivial⟩
            · intro a W hG hR hO hp
              have h2 := hO.slot 2 (by kernel_rfl)
              refine wp_yields (v := .slice (some ⟨b, off, none⟩) l.length rp) ?_ ⟨_, rfl, rfl, Below.refl _ _, hG⟩
              simp [slotOf] at h2
              simp [execOp, go_sem, h2]
            · intro a W hG hR hO hp
              have h7 := hO.slot 7 (by kernel_rfl)
              refine wp_yields (v := .int .i64 k) ?_ ⟨_, rfl, rfl, Below.refl _ _, hG⟩
              simp [slotOf] at h7
              simp [execOp, go_sem, h7]
            · intro a W hG hR hO hp
              have h20 : slotOf a 20 = .slice (some ⟨b, off, none⟩) l.length rp := hp.1
              have h21 : slotOf a 21 = .int .i64 k := hp.2.1
              refine wp_yields (v := .pointer (some ⟨b, off + k * 4, none⟩)) ?_ ⟨_, rfl, rfl, Below.refl _ _, hG⟩
              simp [slotOf] at h20 h21 hkn
              simp [execOp, go_sem, h20, h21, hkn]
            · intro a W hG hR hO hp
              have h22 : slotOf a 22 = .pointer (some ⟨b, off + k * 4, none⟩) := hp.1
              refine wp_yields (v := .pointer (some ⟨b, off + k * 4, none⟩)) ?_ ⟨_, rfl, rfl, Below.refl _ _, hG⟩
              simp [slotOf] at h22
              simp [execOp, go_sem, h22]
            · intro a W hG hR hO hp
              have h23 : slotOf a 23 = .pointer (some ⟨b, off + k * 4, none⟩) := hp.1
              have c0 := keep_cell q0 hG
              refine wp_yields (v := vi d.cell) ?_ ⟨_, rfl, rfl, Below.refl _ _, hG⟩
              simp [slotOf] at h23
              simp [execOp, go_sem, h23, c0]
            · intro a W hG hR hO hp
              have h3 := hO.slot 3 (by kernel_rfl)
              refine wp_yields (v := .pointer (some ⟨w.heap.size, 0, none⟩)) ?_ ⟨_, rfl, rfl, Below.refl _ _, hG⟩
              simp [slotOf] at h3
              simp [execOp, go_sem, h3]
            · intro a W hG hR hO hp
              have h25 : slotOf a 25 = .pointer (some ⟨w.heap.size, 0, none⟩) := hp.1
              have c0 := keep_cell e0 hG
              refine wp_yields (v := .slice A g.cells.length ap) ?_ ⟨_, rfl, rfl, Below.refl _ _, hG⟩
              simp [slotOf] at h25
              simp [execOp, go_sem, h25, c0]
            · intro a W hG hR hO hp
              have h26 : slotOf a 26 = .slice A g.cells.length ap := hp.1
              refine wp_yields (v := vi g.cells.length) ?_ ⟨_, rfl, rfl, Below.refl _ _, hG⟩
              simp [slotOf] at h26
              simp [go_sem, h26]
            · intro a W hG hR hO hp
              have h27 : slotOf a 27 = vi g.cells.length := hp.1
              refine wp_yields (v := vi ((g.cells.length : Int) - 1)) ?_ ⟨_, rfl, rfl, Below.refl _ _, hG⟩
              simp [slotOf] at h27
              simp [execOp, go_sem, h27, hw1]
            · intro a W hG hR hO hp
              have h24 : slotOf a 24 = vi d.cell := hp.1
              have h28 : slotOf a 28 = vi ((g.cells.length : Int) - 1) := hp.2.1
              refine wp_enters (f := 27) (args := #[vi d.cell, vi 0, vi ((g.cells.length : Int) - 1)]) ?_ ((HI1.out W).mono ?_)
              · simp [slotOf] at h24 h28
                simp [go_sem, h24, h28]
              · rintro e w' ⟨rfl, rfl⟩
                exact ⟨_, rfl, _, rfl, rfl, Below.refl _ _, hG⟩
            · intro a W hG hR hO hp
              have h29 : slotOf a 29 = .bool false := hp.1
              refine wp_yields (v := .bool true) ?_ ⟨_, rfl, rfl, Below.refl _ _, hG⟩
              simp [slotOf] at h29
              simp [execOp, go_sem, h29]
            · intro a W hG hR hO hp
              have h30 : slotOf a 30 = .bool true := hp.1
              refine wp_yields (v := .bool true) ?_ ⟨_, rfl, rfl, Below.refl _ _, hG⟩
              simp [slotOf] at h30
              simp [execOp, go_sem, h30]
            · intro a W hG hR hO hp
              have h31 : slotOf a 31 = .bool true := hp.1
              have h41 := hp.2.1
              refine wp_yields (v := .bool true) ?_ ⟨_, rfl, rfl, Below.refl _ _, hG⟩
              simp [slotOf] at h31
              simp [execOp, go_sem, h31]
            · intro a W hG hR hO hp
              have h42 : slotOf a 42 = .bool true := hp.1
              refine wp_yields (v := .bool true) ?_ ⟨_, rfl, rfl, Below.refl _ _, hG⟩
              simp [slotOf] at h42
              simp [execOp, go_sem, h42]
          · intro W hG hR
            rintro _ rfl _ rfl _ rfl _ rfl _ rfl _ rfl _ rfl _ rfl _ rfl _ rfl _ rfl _ rfl _ - _ - _ - _ - _ - _ - _ - _ - _ - _ - _ rfl _ rfl _ - _ - _ - _ - _ - _ - _ -
            change wpList _ _ _ _ _ _
            simp only [Act.put, List.setIfInBounds_toArray, List.set_cons_zero, List.set_cons_succ, List.drop_succ_cons, List.drop_zero]
            have HY := Lib.hid (below_next HX.out.1 hG)
            clear hG hR HX HE
            go_wp2_with fail
            go_ret
            exact ⟨rfl, HY.out⟩
        | true =>
          rw [hb1] at HI1'
          have HI1 := Lib.hid HI1'
          cases hb2 : inB d.day 0 ((days.length : Int) - 1) with
          | false =>
            rw [hb2] at HI2'
            have HI2 := Lib.hid HI2'
            have he : er = 2 := by
              rw [HE.out, if_neg]
              intro h
              have := List.all_eq_true.1 h d (List.mem_of_getElem? HDK.out)
              simp [rdgB, hb2] at this
            subst he
            clear HI1' HI2' hb1 hb2
            go_wp2_with fail
            refine wp_words (by kernel_rfl) (region_told_s 31 (by kernel_rfl) (by kernel_rfl) [false, false, false, false, false, false, false, false, false, false, false, false, false, false, false, false, false, false, false, false, false, false, false, false, true, true, true, true, true, true, true] (fun W => Below wr.heap.size wr W) newer [vIs (.slice (some ⟨b, off, none⟩) l.length rp), vIs (.int .i64 k), vIs (.pointer (some ⟨b, off + k * 4, none⟩)), vIs (.pointer (some ⟨b, off + k * 4, none⟩)), vIs (vi d.cell), vIs (.pointer (some ⟨w.heap.size, 0, none⟩)), vIs (.slice A g.cells.length ap), vIs (vi g.cells.length), vIs (vi ((g.cells.length : Int) - 1)), vIs (.bool true), vIs (.bool false), vIs (.bool false), vIs (.slice (some ⟨b, off, none⟩) l.length rp), vIs (.int .i64 k), vIs (.pointer (some ⟨b, off + k * 4, none⟩)), vIs (.pointer (some ⟨b, off + k * 4 + 1, none⟩)), vIs (vi d.day), vIs (.slice D days.length dp), vIs (vi days.length), vIs (vi ((days.length : Int) - 1)), vIs (.bool false), vIs (.bool true), vIs (.bool true), vIs (.bool true), fun _ _ => True, fun _ _ => True, fun _ _ => True, fun _ _ => True, fun _ _ => True, fun _ _ => True, fun _ _ => True] ⟨rfl, rfl, rfl, rfl, rfl, rfl, rfl, rfl, rfl, rfl, rfl, rfl, (fun _ _ h => h), (fun _ _ h => h), (fun _ _ h => h), (fun _ _ h => h), (fun _ _ h => h), (fun _ _ h => h), (fun _ _ h => h), (fun _ _ h => h), (fun _ _ h => h), (fun _ _ h => h), rfl, rfl, (fun _ _ h => h), (fun _ _ h => h), (fun _ _ h => h), (fun _ _ h => h), (fun _ _ h => h), (fun _ _ h => h), (fun _ _ h => h), trivial⟩ ⟨(fun h => absurd h (by decide)), (fun h => absurd h (by decide)), (fun h => absurd h (by decide)), (fun h => absurd h (by decide)), (fun h => absurd h (by decide)), (fun h => absurd h (by decide)), (fun h => absurd h (by decide)), (fun h => absurd h (by decide)), (fun h => absurd h (by decide)), (fun h => absurd h (by decide)), (fun h => absurd h (by decide)), (fun h => absurd h (by decide)), (fun h => absurd h (by decide)), (fun h => absurd h (by decide)), (fun h => absurd h (by decide)), (fun h => absurd h (by decide)), (fun h => absurd h (by decide)), (fun h => absurd h (by decide)), (fun h => absurd h (by decide)), (fun h => absurd h (by decide)), (fun h => absurd h (by decide)), (fun h => absurd h (by decide)), (fun h => absurd h (by decide)), (fun h => absurd h (by decide)), (fun _ _ _ => trivial), (fun _ _ _ => trivial), (fun _ _ _ => trivial), (fun _ _ _ => trivial), (fun _ _ _ => trivial), (fun _ _ _ => trivial), (fun _ _ _ => trivial), trivial⟩ (fun h k => newer_trans h k) (pickD_stable _ ⟨vIs_st, vIs_st, vIs_st, vIs_st, vIs_st, vIs_st, vIs_st, vIs_st, vIs_st, vIs_st, vIs_st, vIs_st, vIs_st, vIs_st, vIs_st, vIs_st, vIs_st, vIs_st, vIs_st, vIs_st, vIs_st, vIs_st, vIs_st, vIs_st, fun _ _ _ h _ => h, fun _ _ _ h _ => h, fun _ _ _ h _ => h, fun _ _ _ h _ => h, fun _ _ _ h _ => h, fun _ _ _ h _ => h, fun _ _ _ h _ => h, trivial⟩) (Below.refl _ wr).drew (Below.refl _ _) ?_ ?_)
            · refine ⟨.inr ?_, .inr ?_, .inr ?_, .inr ?_, .inr ?_, .inr ?_, .inr ?_, .inr ?_, .inr ?_, .inr ?_, .inr ?_, .inr ?_, .inr ?_, .inr ?_, .inr ?_, .inr ?_, .inr ?_, .inr ?_, .inr ?_, .inr ?_, .inr ?_, .inr ?_, .inr ?_, .inr ?_, .inl rfl, .inl rfl, .inl rfl, .inl rfl, .inl rfl, .inl rfl, .inl rfl, trivial⟩
              · intro a W hG hR hO hp
                have h2 := hO.slot 2 (by kernel_rfl)
                refine wp_yields (v := .slice (some ⟨b, off, none⟩) l.length rp) ?_ ⟨_, rfl, rfl, Below.refl _ _, hG⟩
                simp [slotOf] at h2
                simp [execOp, go_sem, h2]
              · intro a W hG hR hO hp
                have h7 := hO.slot 7 (by kernel_rfl)
                refine wp_yields (v := .int .i64 k) ?_ ⟨_, rfl, rfl, Below.refl _ _, hG⟩
                simp [slotOf] at h7
                simp [execOp, go_sem, h7]
              · intro a W hG hR hO hp
                have h20 : slotOf a 20 = .slice (some ⟨b, off, none⟩) l.length rp := hp.1
                have h21 : slotOf a 21 = .int .i64 k := hp.2.1
                refine wp_yields (v := .pointer (some ⟨b, off + k * 4, none⟩)) ?_ ⟨_, rfl, rfl, Below.refl _ _, hG⟩
                simp [slotOf] at h20 h21 hkn
                simp [execOp, go_sem, h20, h21, hkn]
              · intro a W hG hR hO hp
                have h22 : slotOf a 22 = .pointer (some ⟨b, off + k * 4, none⟩) := hp.1
                refine wp_yields (v := .pointer (some ⟨b, off + k * 4, none⟩)) ?_ ⟨_, rfl, rfl, Below.refl _ _, hG⟩
                simp [slotOf] at h22
                simp [execOp, go_sem, h22]
              · intro a W hG hR hO hp
                have h23 : slotOf a 23 = .pointer (some ⟨b, off + k * 4, none⟩) := hp.1
                have c0 := keep_cell q0 hG
                refine wp_yields (v := vi d.cell) ?_ ⟨_, rfl, rfl, Below.refl _ _, hG⟩
                simp [slotOf] at h23
                simp [execOp, go_sem, h23, c0]
              · intro a W hG hR hO hp
                have h3 := hO.slot 3 (by kernel_rfl)
                refine wp_yields (v := .pointer (some ⟨w.heap.size, 0, none⟩)) ?_ ⟨_, rfl, rfl, Below.refl _ _, hG⟩
                simp [slotOf] at h3
                simp [execOp, go_sem, h3]
              · intro a W hG hR hO hp
                have h25 : slotOf a 25 = .pointer (some ⟨w.heap.size, 0, none⟩) := hp.1
                have c0 := keep_cell e0 hG
                refine wp_yields (v := .slice A g.cells.length ap) ?_ ⟨_, rfl, rfl, Below.refl _ _, hG⟩
                simp [slotOf] at h25
                simp [execOp, go_sem, h25, c0]
              · intro a W hG hR hO hp
                have h26 : slotOf a 26 = .slice A g.cells.length ap := hp.1
                refine wp_yields (v := vi g.cells.length) ?_ ⟨_, rfl, rfl, Below.refl _ _, hG⟩
                simp [slotOf] at h26
                simp [go_sem, h26]
              · intro a W hG hR hO hp
                have h27 : slotOf a 27 = vi g.cells.length := hp.1
                refine wp_yields (v := vi ((g.cells.length : Int) - 1)) ?_ ⟨_, rfl, rfl, Below.refl _ _, hG⟩
                simp [slotOf] at h27
                simp [execOp, go_sem, h27, hw1]
              · intro a W hG hR hO hp
                have h24 : slotOf a 24 = vi d.cell := hp.1
                have h28 : slotOf a 28 = vi ((g.cells.length : Int) - 1) := hp.2.1
                refine wp_enters (f := 27) (args := #[vi d.cell, vi 0, vi ((g.cells.length : Int) - 1)]) ?_ ((HI1.out W).mono ?_)
                · simp [slotOf] at h24 h28
                  simp [go_sem, h24, h28]
                · rintro e w' ⟨rfl, rfl⟩
                  exact ⟨_, rfl, _, rfl, rfl, Below.refl _ _, hG⟩
              · intro a W hG hR hO hp
                have h29 : slotOf a 29 = .bool true := hp.1
                refine wp_yields (v := .bool false) ?_ ⟨_, rfl, rfl, Below.refl _ _, hG⟩
                simp [slotOf] at h29
                simp [execOp, go_sem, h29]
              · intro a W hG hR hO hp
                have h30 : slotOf a 30 = .bool false := hp.1
                refine wp_yields (v := .bool false) ?_ ⟨_, rfl, rfl, Below.refl _ _, hG⟩
                simp [slotOf] at h30
                simp [execOp, go_sem, h30]
              · intro a W hG hR hO hp
                have h2 := hO.slot 2 (by kernel_rfl)
                refine wp_yields (v := .slice (some ⟨b, off, none⟩) l.length rp) ?_ ⟨_, rfl, rfl, Below.refl _ _, hG⟩
                simp [slotOf] at h2
                simp [execOp, go_sem, h2]
              · intro a W hG hR hO hp
                have h7 := hO.slot 7 (by kernel_rfl)
                refine wp_yields (v := .int .i64 k) ?_ ⟨_, rfl, rfl, Below.refl _ _, hG⟩
                simp [slotOf] at h7
                simp [execOp, go_sem, h7]
              · intro a W hG hR hO hp
                have h32 : slotOf a 32 = .slice (some ⟨b, off, none⟩) l.length rp := hp.1
                have h33 : slotOf a 33 = .int .i64 k := hp.2.1
                refine wp_yields (v := .pointer (some ⟨b, off + k * 4, none⟩)) ?_ ⟨_, rfl, rfl, Below.refl _ _, hG⟩
                simp [slotOf] at h32 h33 hkn
                simp [execOp, go_sem, h32, h33, hkn]
              · intro a W hG hR hO hp
                have h34 : slotOf a 34 = .pointer (some ⟨b, off + k * 4, none⟩) := hp.1
                refine wp_yields (v := .pointer (some ⟨b, off + k * 4 + 1, none⟩)) ?_ ⟨_, rfl, rfl, Below.refl _ _, hG⟩
                simp [slotOf] at h34
                simp [execOp, go_sem, h34]
              · intro a W hG hR hO hp
                have h35 : slotOf a 35 = .pointer (some ⟨b, off + k * 4 + 1, none⟩) := hp.1
                have c0 := keep_cell q1 hG
                refine wp_yields (v := vi d.day) ?_ ⟨_, rfl, rfl, Below.refl _ _, hG⟩
                simp [slotOf] at h35
                simp [execOp, go_sem, h35, c0]
              · intro a W hG hR hO hp
                have h1 := hO.slot 1 (by kernel_rfl)
                refine wp_yields (v := .slice D days.length dp) ?_ ⟨_, rfl, rfl, Below.refl _ _, hG⟩
                simp [slotOf] at h1
                simp [execOp, go_sem, h1]
              · intro a W hG hR hO hp
                have h37 : slotOf a 37 = .slice D days.length dp := hp.1
                refine wp_yields (v := vi days.length) ?_ ⟨_, rfl, rfl, Below.refl _ _, hG⟩
                simp [slotOf] at h37
                simp [go_sem, h37]
              · intro a W hG hR hO hp
                have h38 : slotOf a 38 = vi days.length := hp.1
                refine wp_yields (v := vi ((days.length : Int) - 1)) ?_ ⟨_, rfl, rfl, Below.refl _ _, hG⟩
                simp [slotOf] at h38
                simp [execOp, go_sem, h38, hw2]
              · intro a W hG hR hO hp
                have h36 : slotOf a 36 = vi d.day := hp.1
                have h39 : slotOf a 39 = vi ((days.length : Int) - 1) := hp.2.1
                refine wp_enters (f := 27) (args := #[vi d.day, vi 0, vi ((days.length : Int) - 1)]) ?_ ((HI2.out W).mono ?_)
                · simp [slotOf] at h36 h39
                  simp [go_sem, h36, h39]
                · rintro e w' ⟨rfl, rfl⟩
                  exact ⟨_, rfl, _, rfl, rfl, Below.refl _ _, hG⟩
              · intro a W hG hR hO hp
                have h40 : slotOf a 40 = .bool false := hp.1
                refine wp_yields (v := .bool true) ?_ ⟨_, rfl, rfl, Below.refl _ _, hG⟩
                simp [slotOf] at h40
                simp [execOp, go_sem, h40]
              · intro a W hG hR hO hp
                have h31 : slotOf a 31 = .bool false := hp.1
                have h41 : slotOf a 41 = .bool true := hp.2.1
                refine wp_yields (v := .bool true) ?_ ⟨_, rfl, rfl, Below.refl _ _, hG⟩
                simp [slotOf] at h31 h41
                simp [execOp, go_sem, h31, h41]
              · intro a W hG hR hO hp
                have h42 : slotOf a 42 = .bool true := hp.1
                refine wp_yields (v := .bool true) ?_ ⟨_, rfl, rfl, Below.refl _ _, hG⟩
                simp [slotOf] at h42
                simp [execOp, go_sem, h42]
            · intro W hG hR
              rintro _ rfl _ rfl _ rfl _ rfl _ rfl _ rfl _ rfl _ rfl _ rfl _ rfl _ rfl _ rfl _ rfl _ rfl _ rfl _ rfl _ rfl _ rfl _ rfl _ rfl _ rfl _ rfl _ rfl _ rfl _ - _ - _ - _ - _ - _ - _ -
              change wpList _ _ _ _ _ _
              simp only [Act.put, List.setIfInBounds_toArray, List.set_cons_zero, List.set_cons_succ, List.drop_succ_cons, List.drop_zero]
              have HY := Lib.hid (below_next HX.out.1 hG)
              clear hG hR HX HE
              go_wp2_with fail
              go_ret
              exact ⟨rfl, HY.out⟩
          | true =>
            rw [hb2] at HI2'
            have HI2 := Lib.hid HI2'
            obtain ⟨u, hu⟩ : ∃ u, u = upB d.lo d.hi 100000 := ⟨_, rfl⟩
            have HI3' : ∀ W : World, Calls Try.prog 70 #[.agg #[vi d.lo, vi d.hi], vi 100000] W fun e w' => e = .returned (.bool (upB d.lo d.hi 100000)) ∧ W.alloc (.cells #[vi d.lo, vi d.hi] 24) = w' := fun W => upTo_any _ _ _ W
            rw [← hu] at HI3'
            have HI3 := Lib.hid HI3'
            have HU : Hid (rdgB g.cells.length days.length d = u) := Lib.hid (by simp [rdgB, hb1, hb2, hu])
            clear HI1' HI2' HI3' hb1 hb2 hu
            go_wp2_with fail
            refine wp_words (by kernel_rfl) (region_told_s 31 (by kernel_rfl) (by kernel_rfl) [false, false, false, false, false, false, false, false, false, false, false, false, false, false, false, false, false, false, false, false, false, false, false, false, false, false, false, false, false, false, false] (fun W => Below wr.heap.size wr W) newer [vIs (.slice (some ⟨b, off, none⟩) l.length rp), vIs (.int .i64 k), vIs (.pointer (some ⟨b, off + k * 4, none⟩)), vIs (.pointer (some ⟨b, off + k * 4, none⟩)), vIs (vi d.cell), vIs (.pointer (some ⟨w.heap.size, 0, none⟩)), vIs (.slice A g.cells.length ap), vIs (vi g.cells.length), vIs (vi ((g.cells.length : Int) - 1)), vIs (.bool true), vIs (.bool false), vIs (.bool false), vIs (.slice (some ⟨b, off, none⟩) l.length rp), vIs (.int .i64 k), vIs (.pointer (some ⟨b, off + k * 4, none⟩)), vIs (.pointer (some ⟨b, off + k * 4 + 1, none⟩)), vIs (vi d.day), vIs (.slice D days.length dp), vIs (vi days.length), vIs (vi ((days.length : Int) - 1)), vIs (.bool true), vIs (.bool false), vIs (.bool false), vIs (.bool false), vIs (.slice (some ⟨b, off, none⟩) l.length rp), vIs (.int .i64 k), vIs (.pointer (some ⟨b, off + k * 4, none⟩)), vIs (.pointer (some ⟨b, off + k * 4 + 2, none⟩)), vIs (.agg #[vi d.lo, vi d.hi]), vIs (.bool u), vIs (.bool (!u))] ⟨rfl, rfl, rfl, rfl, rfl, rfl, rfl, rfl, rfl, rfl, rfl, rfl, (fun _ _ h => h), (fun _ _ h => h), (fun _ _ h => h), (fun _ _ h => h), (fun _ _ h => h), (fun _ _ h => h), (fun _ _ h => h), (fun _ _ h => h), (fun _ _ h => h), (fun _ _ h => h), rfl, rfl, (fun _ _ h => h), (fun _ _ h => h), (fun _ _ h => h), (fun _ _ h => h), (fun _ _ h => h), (fun _ _ h => h), (fun _ _ h => h), trivial⟩ ⟨(fun h => absurd h (by decide)), (fun h => absurd h (by decide)), (fun h => absurd h (by decide)), (fun h => absurd h (by decide)), (fun h => absurd h (by decide)), (fun h => absurd h (by decide)), (fun h => absurd h (by decide)), (fun h => absurd h (by decide)), (fun h => absurd h (by decide)), (fun h => absurd h (by decide)), (fun h => absurd h (by decide)), (fun h => absurd h (by decide)), (fun h => absurd h (by decide)), (fun h => absurd h (by decide)), (fun h => absurd h (by decide)), (fun h => absurd h (by decide)), (fun h => absurd h (by decide)), (fun h => absurd h (by decide)), (fun h => absurd h (by decide)), (fun h => absurd h (by decide)), (fun h => absurd h (by decide)), (fun h => absurd h (by decide)), (fun h => absurd h (by decide)), (fun h => absurd h (by decide)), (fun h => absurd h (by decide)), (fun h => absurd h (by decide)), (fun h => absurd h (by decide)), (fun h => absurd h (by decide)), (fun h => absurd h (by decide)), (fun h => absurd h (by decide)), (fun h => absurd h (by decide)), trivial⟩ (fun h k => newer_trans h k) (pickD_stable _ ⟨vIs_st, vIs_st, vIs_st, vIs_st, vIs_st, vIs_st, vIs_st, vIs_st, vIs_st, vIs_st, vIs_st, vIs_st, vIs_st, vIs_st, vIs_st, vIs_st, vIs_st, vIs_st, vIs_st, vIs_st, vIs_st, vIs_st, vIs_st, vIs_st, vIs_st, vIs_st, vIs_st, vIs_st, vIs_st, vIs_st, vIs_st, trivial⟩) (Below.refl _ wr).drew (Below.refl _ _) ?_ ?_)
            · refine ⟨.inr ?_, .inr ?_, .inr ?_, .inr ?_, .inr ?_, .inr ?_, .inr ?_, .inr ?_, .inr ?_, .inr ?_, .inr ?_, .inr ?_, .inr ?_, .inr ?_, .inr ?_, .inr ?_, .inr ?_, .inr ?_, .inr ?_, .inr ?_, .inr ?_, .inr ?_, .inr ?_, .inr ?_, .inr ?_, .inr ?_, .inr ?_, .inr ?_, .inr ?_, .inr ?_, .inr ?_, trivial⟩
              · intro a W hG hR hO hp
                have h2 := hO.slot 2 (by kernel_rfl)
                refine wp_yields (v := .slice (some ⟨b, off, none⟩) l.length rp) ?_ ⟨_, rfl, rfl, Below.refl _ _, hG⟩
                simp [slotOf] at h2
                simp [execOp, go_sem, h2]
              · intro a W hG hR hO hp
                have h7 := hO.slot 7 (by kernel_rfl)
                refine wp_yields (v := .int .i64 k) ?_ ⟨_, rfl, rfl, Below.refl _ _, hG⟩
                simp [slotOf] at h7
                simp [execOp, go_sem, h7]
              · intro a W hG hR hO hp
                have h20 : slotOf a 20 = .slice (some ⟨b, off, none⟩) l.length rp := hp.1
                have h21 : slotOf a 21 = .int .i64 k := hp.2.1
                refine wp_yields (v := .pointer (some ⟨b, off + k * 4, none⟩)) ?_ ⟨_, rfl, rfl, Below.refl _ _, hG⟩
                simp [slotOf] at h20 h21 hkn
                simp [execOp, go_sem, h20, h21, hkn]
              · intro a W hG hR hO hp
                have h22 : slotOf a 22 = .pointer (some ⟨b, off + k * 4, none⟩) := hp.1
                refine wp_yields (v := .pointer (some ⟨b, off + k * 4, none⟩)) ?_ ⟨_, rfl, rfl, Below.refl _ _, hG⟩
                simp [slotOf] at h22
                simp [execOp, go_sem, h22]
              · intro a W hG hR hO hp
                have h23 : slotOf a 23 = .pointer (some ⟨b, off + k * 4, none⟩) := hp.1
                have c0 := keep_cell q0 hG
                refine wp_yields (v := vi d.cell) ?_ ⟨_, rfl, rfl, Below.refl _ _, hG⟩
                simp [slotOf] at h23
                simp [execOp, go_sem, h23, c0]
              · intro a W hG hR hO hp
                have h3 := hO.slot 3 (by kernel_rfl)
                refine wp_yields (v := .pointer (some ⟨w.heap.size, 0, none⟩)) ?_ ⟨_, rfl, rfl, Below.refl _ _, hG⟩
                simp [slotOf] at h3
                simp [execOp, go_sem, h3]
              · intro a W hG hR hO hp
                have h25 : slotOf a 25 = .pointer (some ⟨w.heap.size, 0, none⟩) := hp.1
                have c0 := keep_cell e0 hG
                refine wp_yields (v := .slice A g.cells.length ap) ?_ ⟨_, rfl, rfl, Below.refl _ _, hG⟩
                simp [slotOf] at h25
                simp [execOp, go_sem, h25, c0]
              · intro a W hG hR hO hp
                have h26 : slotOf a 26 = .slice A g.cells.length ap := hp.1
                refine wp_yields (v := vi g.cells.length) ?_ ⟨_, rfl, rfl, Below.refl _ _, hG⟩
                simp [slotOf] at h26
                simp [go_sem, h26]
              · intro a W hG hR hO hp
                have h27 : slotOf a 27 = vi g.cells.length := hp.1
                refine wp_yields (v := vi ((g.cells.length : Int) - 1)) ?_ ⟨_, rfl, rfl, Below.refl _ _, hG⟩
                simp [slotOf] at h27
                simp [execOp, go_sem, h27, hw1]
              · intro a W hG hR hO hp
                have h24 : slotOf a 24 = vi d.cell := hp.1
                have h28 : slotOf a 28 = vi ((g.cells.length : Int) - 1) := hp.2.1
                refine wp_enters (f := 27) (args := #[vi d.cell, vi 0, vi ((g.cells.length : Int) - 1)]) ?_ ((HI1.out W).mono ?_)
                · simp [slotOf] at h24 h28
                  simp [go_sem, h24, h28]
                · rintro e w' ⟨rfl, rfl⟩
                  exact ⟨_, rfl, _, rfl, rfl, Below.refl _ _, hG⟩
              · intro a W hG hR hO hp
                have h29 : slotOf a 29 = .bool true := hp.1
                refine wp_yields (v := .bool false) ?_ ⟨_, rfl, rfl, Below.refl _ _, hG⟩
                simp [slotOf] at h29
                simp [execOp, go_sem, h29]
              · intro a W hG hR hO hp
                have h30 : slotOf a 30 = .bool false := hp.1
                refine wp_yields (v := .bool false) ?_ ⟨_, rfl, rfl, Below.refl _ _, hG⟩
                simp [slotOf] at h30
                simp [execOp, go_sem, h30]
              · intro a W hG hR hO hp
                have h2 := hO.slot 2 (by kernel_rfl)
                refine wp_yields (v := .slice (some ⟨b, off, none⟩) l.length rp) ?_ ⟨_, rfl, rfl, Below.refl _ _, hG⟩
                simp [slotOf] at h2
                simp [execOp, go_sem, h2]
              · intro a W hG hR hO hp
                have h7 := hO.slot 7 (by kernel_rfl)
                refine wp_yields (v := .int .i64 k) ?_ ⟨_, rfl, rfl, Below.refl _ _, hG⟩
                simp [slotOf] at h7
                simp [execOp, go_sem, h7]
              · intro a W hG hR hO hp
                have h32 : slotOf a 32 = .slice (some ⟨b, off, none⟩) l.length rp := hp.1
                have h33 : slotOf a 33 = .int .i64 k := hp.2.1
                refine wp_yields (v := .pointer (some ⟨b, off + k * 4, none⟩)) ?_ ⟨_, rfl, rfl, Below.refl _ _, hG⟩
                simp [slotOf] at h32 h33 hkn
                simp [execOp, go_sem, h32, h33, hkn]
              · intro a W hG hR hO hp
                have h34 : slotOf a 34 = .pointer (some ⟨b, off + k * 4, none⟩) := hp.1
                refine wp_yields (v := .pointer (some ⟨b, off + k * 4 + 1, none⟩)) ?_ ⟨_, rfl, rfl, Below.refl _ _, hG⟩
                simp [slotOf] at h34
                simp [execOp, go_sem, h34]
              · intro a W hG hR hO hp
                have h35 : slotOf a 35 = .pointer (some ⟨b, off + k * 4 + 1, none⟩) := hp.1
                have c0 := keep_cell q1 hG
                refine wp_yields (v := vi d.day) ?_ ⟨_, rfl, rfl, Below.refl _ _, hG⟩
                simp [slotOf] at h35
                simp [execOp, go_sem, h35, c0]
              · intro a W hG hR hO hp
                have h1 := hO.slot 1 (by kernel_rfl)
                refine wp_yields (v := .slice D days.length dp) ?_ ⟨_, rfl, rfl, Below.refl _ _, hG⟩
                simp [slotOf] at h1
                simp [execOp, go_sem, h1]
              · intro a W hG hR hO hp
                have h37 : slotOf a 37 = .slice D days.length dp := hp.1
                refine wp_yields (v := vi days.length) ?_ ⟨_, rfl, rfl, Below.refl _ _, hG⟩
                simp [slotOf] at h37
                simp [go_sem, h37]
              · intro a W hG hR hO hp
                have h38 : slotOf a 38 = vi days.length := hp.1
                refine wp_yields (v := vi ((days.length : Int) - 1)) ?_ ⟨_, rfl, rfl, Below.refl _ _, hG⟩
                simp [slotOf] at h38
                simp [execOp, go_sem, h38, hw2]
              · intro a W hG hR hO hp
                have h36 : slotOf a 36 = vi d.day := hp.1
                have h39 : slotOf a 39 = vi ((days.length : Int) - 1) := hp.2.1
                refine wp_enters (f := 27) (args := #[vi d.day, vi 0, vi ((days.length : Int) - 1)]) ?_ ((HI2.out W).mono ?_)
                · simp [slotOf] at h36 h39
                  simp [go_sem, h36, h39]
                · rintro e w' ⟨rfl, rfl⟩
                  exact ⟨_, rfl, _, rfl, rfl, Below.refl _ _, hG⟩
              · intro a W hG hR hO hp
                have h40 : slotOf a 40 = .bool true := hp.1
                refine wp_yields (v := .bool false) ?_ ⟨_, rfl, rfl, Below.refl _ _, hG⟩
                simp [slotOf] at h40
                simp [execOp, go_sem, h40]
              · intro a W hG hR hO hp
                have h31 : slotOf a 31 = .bool false := hp.1
                have h41 : slotOf a 41 = .bool false := hp.2.1
                refine wp_yields (v := .bool false) ?_ ⟨_, rfl, rfl, Below.refl _ _, hG⟩
                simp [slotOf] at h31 h41
                simp [execOp, go_sem, h31, h41]
              · intro a W hG hR hO hp
                have h42 : slotOf a 42 = .bool false := hp.1
                refine wp_yields (v := .bool false) ?_ ⟨_, rfl, rfl, Below.refl _ _, hG⟩
                simp [slotOf] at h42
                simp [execOp, go_sem, h42]
              · intro a W hG hR hO hp
                have h2 := hO.slot 2 (by kernel_rfl)
                refine wp_yields (v := .slice (some ⟨b, off, none⟩) l.length rp) ?_ ⟨_, rfl, rfl, Below.refl _ _, hG⟩
                simp [slotOf] at h2
                simp [execOp, go_sem, h2]
              · intro a W hG hR hO hp
                have h7 := hO.slot 7 (by kernel_rfl)
                refine wp_yields (v := .int .i64 k) ?_ ⟨_, rfl, rfl, Below.refl _ _, hG⟩
                simp [slotOf] at h7
                simp [execOp, go_sem, h7]
              · intro a W hG hR hO hp
                have h44 : slotOf a 44 = .slice (some ⟨b, off, none⟩) l.length rp := hp.1
                have h45 : slotOf a 45 = .int .i64 k := hp.2.1
                refine wp_yields (v := .pointer (some ⟨b, off + k * 4, none⟩)) ?_ ⟨_, rfl, rfl, Below.refl _ _, hG⟩
                simp [slotOf] at h44 h45 hkn
                simp [execOp, go_sem, h44, h45, hkn]
              · intro a W hG hR hO hp
                have h46 : slotOf a 46 = .pointer (some ⟨b, off + k * 4, none⟩) := hp.1
                refine wp_yields (v := .pointer (some ⟨b, off + k * 4 + 2, none⟩)) ?_ ⟨_, rfl, rfl, Below.refl _ _, hG⟩
                simp [slotOf] at h46
                simp [execOp, go_sem, h46]
              · intro a W hG hR hO hp
                have h47 : slotOf a 47 = .pointer (some ⟨b, off + k * 4 + 2, none⟩) := hp.1
                have c0 := keep_cell q2 hG
                have c1 := keep_cell q3 hG
                refine wp_yields (v := .agg #[vi d.lo, vi d.hi]) ?_ ⟨_, rfl, rfl, Below.refl _ _, hG⟩
                simp [slotOf] at h47
                simp [execOp, go_sem, h47, c0, c1]
              · intro a W hG hR hO hp
                have h48 : slotOf a 48 = .agg #[vi d.lo, vi d.hi] := hp.1
                refine wp_enters (f := 70) (args := #[.agg #[vi d.lo, vi d.hi], vi 100000]) ?_ ((HI3.out W).mono ?_)
                · simp [slotOf] at h48
                  simp [go_sem, h48]
                · rintro e w' ⟨rfl, rfl⟩
                  exact ⟨_, rfl, _, rfl, rfl, (Below.refl _ _).alloc (Nat.le_refl _) _, hG.alloc hG.size _⟩
              · intro a W hG hR hO hp
                have h49 : slotOf a 49 = .bool u := hp.1
                refine wp_yields (v := .bool (!u)) ?_ ⟨_, rfl, rfl, Below.refl _ _, hG⟩
                simp [slotOf] at h49
                simp [execOp, go_sem, h49]
            · intro W hG hR
              rintro _ rfl _ rfl _ rfl _ rfl _ rfl _ rfl _ rfl _ rfl _ rfl _ rfl _ rfl _ rfl _ rfl _ rfl _ rfl _ rfl _ rfl _ rfl _ rfl _ rfl _ rfl _ rfl _ rfl _ rfl _ rfl _ rfl _ rfl _ rfl _ rfl _ rfl _ rfl
              change wpList _ _ _ _ _ _
              simp only [Act.put, List.setIfInBounds_toArray, List.set_cons_zero, List.set_cons_succ, List.drop_succ_cons, List.drop_zero]
              have HY := Lib.hid (And.intro (below_next HX.out.1 hG) (HX.out.2.below hG HX.out.2.lt))
              clear hG hR HX q0 q1 q2 q3 e0
              cases u with
              | false =>
                have he : er = 2 := by
                  rw [HE.out, if_neg]
                  intro h
                  have := List.all_eq_true.1 h d (List.mem_of_getElem? HDK.out)
                  rw [HU.out] at this
                  cases this
                subst he
                go_wp2_with fail
                go_ret
                exact ⟨rfl, HY.out.1⟩
              | true =>
                go_wp2_with fail
                go_roundw
                case rel => exact ⟨k + 1, by omega, rfl, HY.out, by rw [take_all_succ _ HDK.out, HA.out, HU.out]; rfl⟩
                case measure => simp [intOf]; omega
      · have hke : k = l.length := by omega
        subst hke
        have he : er = if knownB g days = true then 0 else 8 := by
          have := HA.out
          rw [List.take_length] at this
          rw [HE.out, if_pos this]
        have HE2 := Lib.hid he
        have s0 := hx.2.at 1 rfl
        have s1 := hx.2.at 2 rfl
        clear HE HA he hlt hx hk
        go_wp2_with fail
        go_loopw [8, 9] (fun s8 s9 wr => ∃ k : Nat, k ≤ g.cells.length ∧ s9 = .int .i64 k ∧ s8 = .bool ((g.slo == g.shi) && (g.cells.take k).all fun c => c.lo == c.hi) ∧ (Below w.heap.size w wr ∧ Whole wr w.heap.size 26 (gndC A ap g))) (fun _ s9 _ => g.cells.length - (intOf s9).toNat)
        case atStart => exact ⟨0, Nat.zero_le _, rfl, by simp, HX.out⟩
        case round =>
          obtain ⟨k, hk, rfl, rfl, hx⟩ := hrel
          clear HX s0 s1
          have HX := Lib.hid hx
          have e0 := hx.2.at 0 rfl
          obtain ⟨bb, hbb⟩ : ∃ bb, bb = ((g.slo == g.shi) && (g.cells.take k).all fun c => c.lo == c.hi) := ⟨_, rfl⟩
          rw [← hbb]
          have HBB := Lib.hid hbb
          clear hbb
          by_cases hlt : k < g.cells.length
          · obtain ⟨c, hck⟩ := get_of_lt hlt
            obtain ⟨b, off, rfl, hb, q0, q1, _, _, _, _, _⟩ := row7 (HC.out.below hx.1) hck
            have hkn : (k : Int) < g.cells.length := by omega
            have HCK := Lib.hid hck
            clear hx hck
            cases bb with
            | false =>
              go_wp2_with fail
              go_quiet (fail)
              go_wp2_with fail
              go_roundw
              case rel => exact ⟨k + 1, by omega, rfl, by rw [take_all_succ _ HCK.out, ← Bool.and_assoc, ← HBB.out]; rfl, below_next HX.out.1 (newer_drewN _ _), HX.out.2.below (newer_drewN _ _) HX.out.2.lt⟩
              case measure => simp [intOf]; omega
            | true =>
              go_wp2_with fail
              go_quiet (fail)
              go_wp2_with fail
              go_roundw
              case rel => exact ⟨k + 1, by omega, rfl, by rw [take_all_succ _ HCK.out, ← Bool.and_assoc, ← HBB.out]; simp, below_next HX.out.1 (newer_drewN _ _), HX.out.2.below (newer_drewN _ _) HX.out.2.lt⟩
              case measure => simp [intOf]; omega
          · have hke : k = g.cells.length := by omega
            subst hke
            rw [List.take_length] at HBB
            clear hx hlt hk
            go_wp2_with fail
            go_loopw [8, 10] (fun s8 s10 wr => ∃ k : Nat, k ≤ days.length ∧ s10 = .int .i64 k ∧ s8 = .bool (bb && (days.take k).all fun c => c.lo == c.hi) ∧ (Below w.heap.size w wr ∧ Whole wr w.heap.size 26 (gndC A ap g))) (fun _ s10 _ => days.length - (intOf s10).toNat)
            case atStart => exact ⟨0, Nat.zero_le _, rfl, by simp, HX.out⟩
            case round =>
              obtain ⟨k, hk, rfl, rfl, hx⟩ := hrel
              clear HX e0
              have HX := Lib.hid hx
              obtain ⟨b2, hb2⟩ : ∃ b2, b2 = (bb && (days.take k).all fun c => c.lo == c.hi) := ⟨_, rfl⟩
              rw [← hb2]
              have HB2 := Lib.hid hb2
              clear hb2
              by_cases hlt : k < days.length
              · obtain ⟨c, hck⟩ := get_of_lt hlt
                obtain ⟨b, off, rfl, hb, q0, q1, _⟩ := row3 (HD.out.below hx.1) hck
                have hkn : (k : Int) < days.length := by omega
                have HCK := Lib.hid hck
                clear hx hck
                cases b2 with
                | false =>
                  go_wp2_with fail
                  go_quiet (fail)
                  go_wp2_with fail
                  go_roundw
                  case rel => exact ⟨k + 1, by omega, rfl, by rw [take_all_succ _ HCK.out, ← Bool.and_assoc, ← HB2.out]; rfl, below_next HX.out.1 (newer_drewN _ _), HX.out.2.below (newer_drewN _ _) HX.out.2.lt⟩
                  case measure => simp [intOf]; omega
                | true =>
                  go_wp2_with fail
                  go_quiet (fail)
                  go_wp2_with fail
                  go_roundw
                  case rel => exact ⟨k + 1, by omega, rfl, by rw [take_all_succ _ HCK.out, ← Bool.and_assoc, ← HB2.out]; simp, below_next HX.out.1 (newer_drewN _ _), HX.out.2.below (newer_drewN _ _) HX.out.2.lt⟩
                  case measure => simp [intOf]; omega
              · have hke : k = days.length := by omega
                subst hke
                rw [List.take_length] at HB2
                have he : er = if b2 = true then 0 else 8 := by rw [HE2.out, HB2.out, HBB.out]; rfl
                clear HE2 hx hlt hk HB2 HBB
                cases b2 with
                | false =>
                  subst he
                  go_wp2_with fail
                  go_ret
                  exact ⟨rfl, HX.out.1⟩
                | true =>
                  subst he
                  go_wp2_with fail
                  go_ret
                  exact ⟨rfl, HX.out.1⟩
end Go.Proofs.Yteonkhohloabfaa
