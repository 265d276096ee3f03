/- What a work adds; whether a plan is one; whether a village agrees; sums. -/
import Derived.Test.YtpnpnfjhjjdmgaaC
namespace Go.Proofs.Ytpnpnfjhjjdmgaa
open Go.RowKit

/-- What a work that is built in a year adds in another one, if it would add so much in its first. -/
def addsN (x : Wd) (built year number : Int) : Int := if built = -1 ∨ year < built then 0 else number * mxI 0 (1000 - x.age * (year - built)) / 1000
def endG (hi : Bool) : Nat := if hi then 57 else 56
def endR (hi : Bool) (r : Rg) : Int := if hi then r.hi else r.lo
theorem end_any (hi : Bool) (r : Rg) (w : World) : Calls Try.prog (endG hi) #[rgV r] w fun e w' => e = .returned (vi (endR hi r)) ∧ Below w.heap.size w w' := by
  cases hi
  · exact low_any r w
  · exact high_any r w
theorem mul_bd {a d A D : Int} (h0 : 0 ≤ a) (h1 : a ≤ A) (h2 : 0 ≤ d) (h3 : d ≤ D) : 0 ≤ a * d ∧ a * d ≤ A * D :=
  ⟨Int.mul_nonneg h0 h2, Int.le_trans (Int.mul_le_mul_of_nonneg_right h1 h2) (Int.mul_le_mul_of_nonneg_left h3 (by omega))⟩
set_option maxRecDepth 100000 in
set_option maxHeartbeats 1000000 in
theorem adds_any (hi : Bool) (x : Wk) (built year : Int) (k : Nat) (r : Rg) (w : World) (hk : x.d.adds[k]? = some r) (hr : Row rgL 2 w w.heap.size x.a x.d.adds) (ha0 : 0 ≤ x.d.age) (ha1 : x.d.age ≤ 1000)
    (hn0 : 0 ≤ endR hi r) (hn1 : endR hi r ≤ 10000) (hb0 : -1 ≤ built) (hb1 : built ≤ 1000) (hy0 : 0 ≤ year) (hy1 : year ≤ 1000) :
    Calls Try.prog 79 #[wkV x, vi built, vi (k : Int), vi year, .func (.func (endG hi)) #[] #[]] w fun e w' => e = .returned (vi (addsN x.d built year (endR hi r))) ∧ newer w w' := by
  unfold addsN
  by_cases h1 : built = -1
  · rw [if_pos (.inl h1)]
    go_enter Try.func79, Try.ntmps79
    go_wp2_with fail
    go_ret
    exact ⟨rfl, newer_allocH w _⟩
  · have h1b : (built == -1) = false := by rw [beq_eq_false_iff_ne]; exact h1
    by_cases h2 : year < built
    · rw [if_pos (.inr h2)]
      go_enter Try.func79, Try.ntmps79
      go_wp2_with fail
      go_ret
      exact ⟨rfl, newer_allocH w _⟩
    · rw [if_neg (by omega)]
      have hkl : k < x.d.adds.length := (List.getElem?_eq_some_iff.1 hk).1
      have hkn : (k : Int) < x.d.adds.length := by omega
      obtain ⟨b, off, ea, _, c1, c2⟩ := row2 (row_alloc hr (.cells (wkC x) 87)) hk
      obtain ⟨d, hd⟩ : ∃ d, d = year - built := ⟨_, rfl⟩
      obtain ⟨g, hg⟩ : ∃ g, g = x.d.age * d := ⟨_, rfl⟩
      obtain ⟨hh, hhh⟩ : ∃ hh, hh = 1000 - g := ⟨_, rfl⟩
      obtain ⟨m, hm⟩ : ∃ m, m = mxI 0 hh := ⟨_, rfl⟩
      obtain ⟨n, hn⟩ : ∃ n, n = endR hi r := ⟨_, rfl⟩
      obtain ⟨pr, hpr⟩ : ∃ pr, pr = n * m := ⟨_, rfl⟩
      obtain ⟨q, hq⟩ : ∃ q, q = pr / 1000 := ⟨_, rfl⟩
      have bg := mul_bd ha0 ha1 (show 0 ≤ d by omega) (show d ≤ 1001 by omega)
      rw [← hg] at bg
      have bm : 0 ≤ m ∧ m ≤ 1000 := by
        rw [hm]
        unfold mxI
        split <;> omega
      rw [← hn] at hn0 hn1
      have bp := mul_bd hn0 hn1 bm.1 bm.2
      rw [← hpr] at bp
      have e11 : IntKind.i64.wrap (year - built) = d := by rw [← hd]; exact IntWalk.i64_in _ (by omega)
      have e12 : IntKind.i64.wrap (x.d.age * d) = g := by rw [← hg]; exact IntWalk.i64_in _ (by omega)
      have e13 : IntKind.i64.wrap (1000 - g) = hh := by rw [← hhh]; exact IntWalk.i64_in _ (by omega)
      have e15 : IntKind.i64.wrap (n * m) = pr := by rw [← hpr]; exact IntWalk.i64_in _ (by omega)
      have e16 : pr.tdiv 1000 = q := by rw [hq]; exact Int.tdiv_eq_ediv_of_nonneg bp.1
      have e17 : IntKind.i64.wrap q = q := IntWalk.i64_in _ (by omega)
      have hres : endR hi r * mxI 0 (1000 - x.d.age * (year - built)) / 1000 = q := by rw [← hd, ← hg, ← hhh, ← hm, ← hn, ← hpr, ← hq]
      rw [hres]
      have HM := Lib.hid hm
      have HN := Lib.hid hn
      clear hres hm hn hpr hq hd hg hhh bg bm bp hn0 hn1 hr hk ha0 ha1 hb0 hb1 hy0 hy1
      have hw := Whole.made w 87 (wkC x)
      have x3 := hw.at 3 (v := vi x.d.age) rfl
      have x5 := hw.at 5 (v := .slice x.a x.d.adds.length x.cp) rfl
      rw [ea] at x5
      clear ea
      go_enter Try.func79, Try.ntmps79
      go_upto_region 3 with fail
      refine genQ (fun X => X = w.alloc (.cells (wkC x) 87)) rfl ?_
      intro wv hwv
      rw [← hwv] at x3 x5 c1 c2
      have HB : Hid (newer w wv) := Lib.hid (by rw [hwv]; exact newer_allocH w _)
      clear hwv hw
      refine wp_words (by kernel_rfl) (region_told 17 (by kernel_rfl) (by kernel_rfl) (fun W => Below wv.heap.size wv W) newer (pickD [vIs (.func (.func (endG hi)) #[] #[]), vIs (.pointer (some ⟨w.heap.size, 5, none⟩)), vIs (.slice (some ⟨b, off, none⟩) x.d.adds.length x.cp), vIs (vi (k : Int)), vIs (.pointer (some ⟨b, off + k * 2, none⟩)), vIs (.agg #[vi r.lo, vi r.hi]), vIs (vi n), vIs (.pointer (some ⟨w.heap.size, 3, none⟩)), vIs (vi x.d.age), vIs (vi year), vIs (vi built), vIs (vi d), vIs (vi g), vIs (vi hh), vIs (vi m), vIs (vi pr), vIs (vi q)]) (fun h k => newer_trans h k) (pickD_stable _ ⟨vIs_st, vIs_st, vIs_st, vIs_st, vIs_st, vIs_st, vIs_st, vIs_st, vIs_st, vIs_st, vIs_st, vIs_st, vIs_st, vIs_st, vIs_st, vIs_st, vIs_st, trivial⟩) (Below.refl _ wv).drew (Below.refl _ _) ?_ ?_)
      · refine ⟨?_, ?_, ?_, ?_, ?_, ?_, ?_, ?_, ?_, ?_, ?_, ?_, ?_, ?_, ?_, ?_, ?_, trivial⟩
        · intro a W hG hR hO hp
          have h4 := hO.slot 4 (by kernel_rfl)
          refine wp_yields (v := .func (.func (endG hi)) #[] #[]) ?_ ⟨_, rfl, rfl, Below.refl _ _, hG⟩
          simp [slotOf] at h4
          simp [execOp, go_sem, h4]
        · intro a W hG hR hO hp
          have h5 := hO.slot 5 (by kernel_rfl)
          refine wp_yields (v := .pointer (some ⟨w.heap.size, 5, none⟩)) ?_ ⟨_, rfl, rfl, Below.refl _ _, hG⟩
          simp [slotOf] at h5
          simp [execOp, go_sem, h5]
        · intro a W hG hR hO hp
          have h19 : slotOf a 19 = .pointer (some ⟨w.heap.size, 5, none⟩) := hp.1
          have c0 := keep_cell x5 hG
          refine wp_yields (v := .slice (some ⟨b, off, none⟩) x.d.adds.length x.cp) ?_ ⟨_, rfl, rfl, Below.refl _ _, hG⟩
          simp [slotOf] at h19
          simp [execOp, go_sem, h19, c0]
        · intro a W hG hR hO hp
          have h2 := hO.slot 2 (by kernel_rfl)
          refine wp_yields (v := vi (k : Int)) ?_ ⟨_, rfl, rfl, Below.refl _ _, hG⟩
          simp [slotOf] at h2
          simp [execOp, go_sem, h2]
        · intro a W hG hR hO hp
          have h20 : slotOf a 20 = .slice (some ⟨b, off, none⟩) x.d.adds.length x.cp := hp.1
          have h21 : slotOf a 21 = vi (k : Int) := hp.2.1
          refine wp_yields (v := .pointer (some ⟨b, off + k * 2, none⟩)) ?_ ⟨_, rfl, rfl, Below.refl _ _, hG⟩
          simp [slotOf] at h20 h21
          simp [execOp, go_sem, h20, h21, hkn]
        · intro a W hG hR hO hp
          have h22 : slotOf a 22 = .pointer (some ⟨b, off + k * 2, none⟩) := hp.1
          have c0 := keep_cell c1 hG
          have c1 := keep_cell c2 hG
          refine wp_yields (v := .agg #[vi r.lo, vi r.hi]) ?_ ⟨_, rfl, rfl, Below.refl _ _, hG⟩
          simp [slotOf] at h22
          simp [execOp, go_sem, h22, c0, c1]
        · intro a W hG hR hO hp
          have h18 : slotOf a 18 = .func (.func (endG hi)) #[] #[] := hp.1
          have h23 : slotOf a 23 = .agg #[vi r.lo, vi r.hi] := hp.2.1
          refine wp_enters (f := endG hi) (args := #[rgV r]) ?_ ((end_any hi r W).mono ?_)
          · simp [slotOf] at h18 h23
            cases hi <;> simp only [endG, if_true, if_false, Bool.false_eq_true] at h18 ⊢ <;> simp [go_sem, h18, h23]
          · rintro e w' ⟨rfl, hb⟩
            exact ⟨_, rfl, _, rfl, (by show vi (endR hi r) = vi n; rw [HN.out]), hb, below_next hG hb⟩
        · intro a W hG hR hO hp
          have h5 := hO.slot 5 (by kernel_rfl)
          refine wp_yields (v := .pointer (some ⟨w.heap.size, 3, none⟩)) ?_ ⟨_, rfl, rfl, Below.refl _ _, hG⟩
          simp [slotOf] at h5
          simp [execOp, go_sem, h5]
        · intro a W hG hR hO hp
          have h25 : slotOf a 25 = .pointer (some ⟨w.heap.size, 3, none⟩) := hp.1
          have c0 := keep_cell x3 hG
          refine wp_yields (v := vi x.d.age) ?_ ⟨_, rfl, rfl, Below.refl _ _, hG⟩
          simp [slotOf] at h25
          simp [execOp, go_sem, h25, c0]
        · intro a W hG hR hO hp
          have h3 := hO.slot 3 (by kernel_rfl)
          refine wp_yields (v := vi year) ?_ ⟨_, rfl, rfl, Below.refl _ _, hG⟩
          simp [slotOf] at h3
          simp [execOp, go_sem, h3]
        · intro a W hG hR hO hp
          have h1 := hO.slot 1 (by kernel_rfl)
          refine wp_yields (v := vi built) ?_ ⟨_, rfl, rfl, Below.refl _ _, hG⟩
          simp [slotOf] at h1
          simp [execOp, go_sem, h1]
        · intro a W hG hR hO hp
          have h27 : slotOf a 27 = vi year := hp.1
          have h28 : slotOf a 28 = vi built := hp.2.1
          refine wp_yields (v := vi d) ?_ ⟨_, rfl, rfl, Below.refl _ _, hG⟩
          simp [slotOf] at h27 h28
          simp [execOp, go_sem, h27, h28, e11]
        · intro a W hG hR hO hp
          have h26 : slotOf a 26 = vi x.d.age := hp.1
          have h29 : slotOf a 29 = vi d := hp.2.1
          refine wp_yields (v := vi g) ?_ ⟨_, rfl, rfl, Below.refl _ _, hG⟩
          simp [slotOf] at h26 h29
          simp [execOp, go_sem, h26, h29, e12]
        · intro a W hG hR hO hp
          have h30 : slotOf a 30 = vi g := hp.1
          refine wp_yields (v := vi hh) ?_ ⟨_, rfl, rfl, Below.refl _ _, hG⟩
          simp [slotOf] at h30
          simp [execOp, go_sem, h30, e13]
        · intro a W hG hR hO hp
          have h31 : slotOf a 31 = vi hh := hp.1
          refine wp_yields (v := vi m) ?_ ⟨_, rfl, rfl, Below.refl _ _, hG⟩
          simp [slotOf] at h31
          simp [go_sem, h31, HM.out, mxI]
        · intro a W hG hR hO hp
          have h24 : slotOf a 24 = vi n := hp.1
          have h32 : slotOf a 32 = vi m := hp.2.1
          refine wp_yields (v := vi pr) ?_ ⟨_, rfl, rfl, Below.refl _ _, hG⟩
          simp [slotOf] at h24 h32
          simp [execOp, go_sem, h24, h32, e15]
        · intro a W hG hR hO hp
          have h33 : slotOf a 33 = vi pr := hp.1
          refine wp_yields (v := vi q) ?_ ⟨_, rfl, rfl, Below.refl _ _, hG⟩
          simp [slotOf] at h33
          simp [execOp, go_sem, h33, e16, e17]
      · intro W hG hR
        rintro _ rfl _ rfl _ rfl _ rfl _ rfl _ rfl _ rfl _ rfl _ rfl _ rfl _ rfl _ rfl _ rfl _ rfl _ rfl _ rfl _ rfl
        change wpList _ _ _ _ _ _
        simp only [Act.put, List.setIfInBounds_toArray, List.set_cons_zero, List.set_cons_succ, List.drop_succ_cons, List.drop_zero]
        have HF := Lib.hid (newer_trans HB.out hG)
        clear hG hR HB x3 x5 c1 c2
        go_wp2_with fail
        go_ret
        exact ⟨rfl, HF.out⟩
end Go.Proofs.Ytpnpnfjhjjdmgaa
