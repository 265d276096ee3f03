/- The reference of the water layer: is a level kept with a pump? -/
import Derived.Test.YteonkhohloabfaaAJ
import Derived.Test.YteonkhohloabfaaAH
namespace Go.Proofs.Yteonkhohloabfaa
open Go.RowKit

/-- The first day on which a cell's level is at least so great, in the truth of all lesser, or of all greater ends; -1: there is none. -/
def firstE (hi : Bool) (g : Gnd) (days : List Day) (cell : Nat) (level : Int) : Int := firstD days.length fun k => decide (level ≤ (stE hi g days (k + 1)).f cell)
theorem firstD_ge (n : Nat) (p : Nat → Bool) : -1 ≤ firstD n p ∧ firstD n p < n := by
  unfold firstD idx
  cases h : (List.range n).findIdx? p with
  | none => simp; omega
  | some i =>
    rw [List.findIdx?_eq_some_iff_getElem] at h
    obtain ⟨hi, _⟩ := h
    simp at hi
    simp; omega
theorem keepsB_first (g : Gnd) (days : List Day) (cell : Nat) (level pump : Int) : keepsB g days cell level pump = decide (firstE true (withPump g cell pump) days cell (level + 1) < 0) := by
  have h := firstD_ge days.length (fun k => decide (level + 1 ≤ (stE true (withPump g cell pump) days (k + 1)).f cell))
  unfold keepsB firstE
  rw [Bool.eq_iff_iff]
  simp only [beq_iff_eq, decide_eq_true_eq]
  omega

theorem refFirstE (hi : Bool) (g : Gnd) (A : Option Addr) (cp : Nat) (days : List Day) (D : Option Addr) (dp : Nat) (L : Option Addr) (lp : Nat) (R : Option Addr) (rp : Nat) (cell : Nat) (level : Int) (hf : faultN g days = 0) (hcl : cell < g.cells.length) (w : World)
    (hc : Row cellL 7 w w.heap.size A g.cells) (hd : Row dayL 3 w w.heap.size D days) (hL : Row intL 1 w w.heap.size L (g.cells.map fun c => endOf hi c.lo c.hi)) (hR : Row intL 1 w w.heap.size R (days.map fun d => endOf hi d.lo d.hi)) :
    Calls Try.prog 30 #[gndV A cp g, .slice D days.length dp, truthV (endOf hi g.slo g.shi) (endOf hi g.klo g.khi) L g.cells.length lp R days.length rp, .int .i64 cell, .int .i64 level] w fun e w' => e = .returned (.int .i64 (firstE hi g days cell level)) ∧ Below w.heap.size w w' := by
  have := refFirst g A cp days D dp (endOf hi g.slo g.shi) (endOf hi g.klo g.khi) (g.cells.map fun c => endOf hi c.lo c.hi) L lp (days.map fun d => endOf hi d.lo d.hi) R rp cell level (wayOk_end hi hf) (fault_cells hf).1 (List.length_map _) hcl w hc hd hL hR
  simp only [List.length_map] at this
  exact this

set_option maxRecDepth 100000 in
set_option maxHeartbeats 2000000 in
theorem refKeeps (g : Gnd) (A : Option Addr) (ap : Nat) (days : List Day) (D : Option Addr) (dp : Nat) (cell : Nat) (level pump : Int) (w : World) (hf : faultN g days = 0) (hcl : cell < g.cells.length) (hv0 : 0 ≤ level) (hv1 : level ≤ 100000) (hp0 : 0 ≤ pump) (hp1 : pump ≤ 100000)
    (hc : Row cellL 7 w w.heap.size A g.cells) (hd : Row dayL 3 w w.heap.size D days) :
    Calls Try.prog 26 #[gndV A ap g, .slice D days.length dp, .int .i64 cell, .int .i64 level, .int .i64 pump] w fun e w' => e = .returned (.bool (keepsB g days cell level pump)) ∧ Below w.heap.size w w' := by
  have h8 := (fault_cells hf).2
  have hm := (fault_zero hf).2.1
  have HP := Lib.hid (fault_pump hf cell hp0 hp1)
  have HWI := Lib.hid (refWith g A ap cell pump (w.alloc (.cells (gndC A ap g) 26)) (by omega) hcl (row_alloc hc _))
  have HD := Lib.hid hd
  have HCL := Lib.hid hcl
  rw [keepsB_first]
  have hlen := withPump_len g cell pump
  obtain ⟨x, hx⟩ : ∃ x, x = withPump g cell pump := ⟨_, rfl⟩
  rw [← hx] at hlen HP HWI ⊢
  clear hx hf hc hd
  have hwr : IntKind.i64.wrap (level + 1) = level + 1 := IntWalk.i64_in _ (by omega)
  have HLE := Lib.hid hlen
  have hx8 : x.cells.length ≤ 8 := by omega
  have hcx : cell < x.cells.length := by omega
  clear hlen
  obtain ⟨fv, hfv⟩ : ∃ fv, fv = firstE true x days cell (level + 1) := ⟨_, rfl⟩
  have HFV := Lib.hid hfv
  rw [← hfv]
  clear hfv
  have HW := Lib.hid hwr
  have HCX := Lib.hid hcx
  clear hwr hcl hcx
  go_enter Try.func26, Try.ntmps26
  go_wp2_with fail
  refine (HWI.out).mono ?_
  rintro e w1 ⟨A2, cq, rfl, hr2, hb2⟩
  have HB : Hid (Below w.heap.size w (w1.alloc (.cells (gndC A2 cq x) 26)) ∧ Whole (w1.alloc (.cells (gndC A2 cq x) 26)) w1.heap.size 26 (gndC A2 cq x) ∧ Row cellL 7 (w1.alloc (.cells (gndC A2 cq x) 26)) (w1.alloc (.cells (gndC A2 cq x) 26)).heap.size A2 x.cells) :=
    have h0 := below_step ((Below.refl w.heap.size w).alloc (Nat.le_refl _) (.cells (gndC A ap g) 26)) hb2 (by simp)
    ⟨h0.alloc h0.size _, Whole.made _ _ _, row_alloc hr2 _⟩
  obtain ⟨xb, hxb⟩ : ∃ xb, xb = w1.heap.size := ⟨_, rfl⟩
  clear hb2 hr2 HWI
  go_upto_region 2 with fail
  rw [← hxb] at HB ⊢
  clear hxb
  refine gen_world (fun W => Below w.heap.size w W ∧ Whole W xb 26 (gndC A2 cq x) ∧ Row cellL 7 W W.heap.size A2 x.cells) HB.out ?_
  rintro wv ⟨hbv, hxv, hrv⟩
  have g0 := hxv.at 0 (v := .slice A2 x.cells.length cq) rfl
  have g1 := hxv.at 1 (v := vi x.slo) rfl
  have g2 := hxv.at 2 (v := vi x.shi) rfl
  have g3 := hxv.at 3 (v := vi x.klo) rfl
  have g4 := hxv.at 4 (v := vi x.khi) rfl
  have g5 := hxv.at 5 (v := vi x.melt) rfl
  have HR := Lib.hid (And.intro hbv hrv)
  clear hbv hxv hrv HB
  refine wp_words (by kernel_rfl) (region_told 10 (by kernel_rfl) (by kernel_rfl) (fun W => Below wv.heap.size wv W) newer (pickD [vIs (gndV A2 cq x), vIs (.slice D days.length dp), vIs (gndV A2 cq x), vIs (.slice D days.length dp), vTruth wv.heap.size true x days, vIs (.int .i64 cell), vIs (.int .i64 level), vIs (.int .i64 (level + 1)), vIs (.int .i64 fv), vIs (.bool (decide (fv < 0)))]) (fun h k => newer_trans h k) (pickD_stable _ ⟨vIs_st, vIs_st, vIs_st, vIs_st, vTruth_st, vIs_st, vIs_st, vIs_st, vIs_st, vIs_st, trivial⟩) (Below.refl _ wv).drew (Below.refl _ _) ?_ ?_)
  · refine ⟨?_, ?_, ?_, ?_, ?_, ?_, ?_, ?_, ?_, ?_, trivial⟩
    · intro a W hG hR hO hp
      have h11 := hO.slot 11 (by kernel_rfl)
      have c0 := keep_cell g0 hG
      have c1 := keep_cell g1 hG
      have c2 := keep_cell g2 hG
      have c3 := keep_cell g3 hG
      have c4 := keep_cell g4 hG
      have c5 := keep_cell g5 hG
      refine wp_yields (v := gndV A2 cq x) ?_ ⟨_, rfl, rfl, Below.refl _ _, hG⟩
      simp [slotOf] at h11
      simp [execOp, go_sem, h11, c0, c1, c2, c3, c4, c5]
    · intro a W hG hR hO hp
      have h1 := hO.slot 1 (by kernel_rfl)
      refine wp_yields (v := .slice D days.length dp) ?_ ⟨_, rfl, rfl, Below.refl _ _, hG⟩
      simp [slotOf] at h1
      simp [execOp, go_sem, h1]
    · intro a W hG hR hO hp
      have h11 := hO.slot 11 (by kernel_rfl)
      have c0 := keep_cell g0 hG
      have c1 := keep_cell g1 hG
      have c2 := keep_cell g2 hG
      have c3 := keep_cell g3 hG
      have c4 := keep_cell g4 hG
      have c5 := keep_cell g5 hG
      refine wp_yields (v := gndV A2 cq x) ?_ ⟨_, rfl, rfl, Below.refl _ _, hG⟩
      simp [slotOf] at h11
      simp [execOp, go_sem, h11, c0, c1, c2, c3, c4, c5]
    · intro a W hG hR hO hp
      have h1 := hO.slot 1 (by kernel_rfl)
      refine wp_yields (v := .slice D days.length dp) ?_ ⟨_, rfl, rfl, Below.refl _ _, hG⟩
      simp [slotOf] at h1
      simp [execOp, go_sem, h1]
    · intro a W hG hR hO hp
      have h18 : slotOf a 18 = gndV A2 cq x := hp.1
      have h19 : slotOf a 19 = .slice D days.length dp := hp.2.1
      refine wp_enters (f := 23) (args := #[gndV A2 cq x, .slice D days.length dp, .bool true]) ?_ ((refEnds true x A2 cq days D dp W (by omega) (by omega) ((HR.out.2.below hG).more hG.size) ((HD.out.below (below_next HR.out.1 hG)).more (below_next HR.out.1 hG).size)).mono ?_)
      · simp [slotOf] at h18 h19
        simp [go_sem, h18, h19]
      · rintro e w' ⟨L, lp, R, rp, rfl, h2, h3, hb, h4, h5⟩
        exact ⟨_, rfl, _, rfl, ⟨L, lp, R, rp, rfl, h2, h3, fun a e => Nat.le_trans hG.size (h4 a e), fun a e => Nat.le_trans hG.size (h5 a e)⟩, hb, below_next hG hb⟩
    · intro a W hG hR hO hp
      have h2 := hO.slot 2 (by kernel_rfl)
      refine wp_yields (v := .int .i64 cell) ?_ ⟨_, rfl, rfl, Below.refl _ _, hG⟩
      simp [slotOf] at h2
      simp [execOp, go_sem, h2]
    · intro a W hG hR hO hp
      have h3 := hO.slot 3 (by kernel_rfl)
      refine wp_yields (v := .int .i64 level) ?_ ⟨_, rfl, rfl, Below.refl _ _, hG⟩
      simp [slotOf] at h3
      simp [execOp, go_sem, h3]
    · intro a W hG hR hO hp
      have h22 : slotOf a 22 = .int .i64 level := hp.1
      refine wp_yields (v := .int .i64 (level + 1)) ?_ ⟨_, rfl, rfl, Below.refl _ _, hG⟩
      simp [slotOf] at h22
      simp [execOp, go_sem, h22, HW.out]
    · intro a W hG hR hO hp
      have h16 : slotOf a 16 = gndV A2 cq x := hp.1
      have h17 : slotOf a 17 = .slice D days.length dp := hp.2.1
      have h20 := hp.2.2.1
      have h21 : slotOf a 21 = .int .i64 cell := hp.2.2.2.1
      have h23 : slotOf a 23 = .int .i64 (level + 1) := hp.2.2.2.2.1
      obtain ⟨L, lp, R, rp, h20, h2, h3, _, _⟩ := h20
      have hfs := refFirstE true x A2 cq days D dp L lp R rp cell (level + 1) HP.out HCX.out W ((HR.out.2.below hG).more hG.size) ((HD.out.below (below_next HR.out.1 hG)).more (below_next HR.out.1 hG).size) h2 h3
      rw [← HFV.out] at hfs
      refine wp_enters (f := 30) (args := #[gndV A2 cq x, .slice D days.length dp, truthV (endOf true x.slo x.shi) (endOf true x.klo x.khi) L x.cells.length lp R days.length rp, .int .i64 cell, .int .i64 (level + 1)]) ?_ (hfs.mono ?_)
      · simp [slotOf] at h16 h17 h20 h21 h23
        simp [go_sem, h16, h17, h20, h21, h23]
      · rintro e w' ⟨rfl, hb⟩
        exact ⟨_, rfl, _, rfl, rfl, hb, below_next hG hb⟩
    · intro a W hG hR hO hp
      have h24 : slotOf a 24 = .int .i64 fv := hp.1
      refine wp_yields (v := .bool (decide (fv < 0))) ?_ ⟨_, rfl, rfl, Below.refl _ _, hG⟩
      simp [slotOf] at h24
      simp [execOp, go_sem, h24]
  · intro W hG hR
    rintro _ rfl _ rfl _ rfl _ rfl _ ⟨_, _, _, _, rfl, _, _, _, _⟩ _ rfl _ rfl _ rfl _ rfl _ rfl
    change wpList _ _ _ _ _ _
    simp only [Act.put, List.setIfInBounds_toArray, List.set_cons_zero, List.set_cons_succ, List.drop_succ_cons, List.drop_zero]
    have HX := Lib.hid (below_next HR.out.1 hG)
    clear hG hR HR g0 g1 g2 g3 g4 g5
    go_wp2_with fail
    go_ret
    exact ⟨rfl, HX.out⟩
end Go.Proofs.Yteonkhohloabfaa
