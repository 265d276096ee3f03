/- The law WaterKept returns true for every ground, all days and all words, and leaves what it was given as it was. -/
import Derived.Test.YteonkhohloabfaaBA
namespace Go.Proofs.Yteonkhohloabfaa
open Go.ChangeShapes Go.WideShapes Go.ChangeAt Go.RowKit Go.Deep

/-- What is known of a run in numbers. -/
structure KeptNum (g : Gnd) (days : List Day) (snow soak : Int) (lv rn : List Int) : Prop where
  n1 : 1 ≤ g.cells.length
  n8 : g.cells.length ≤ 8
  m30 : days.length ≤ 30
  lvn : lv.length = g.cells.length
  rnn : rn.length = days.length
  lv0 : lv.sum = sumN (stR g days snow soak lv rn 0).f g.cells.length
  lvb : ∀ x ∈ lv, 0 ≤ x ∧ x ≤ 1000000000
  rnb : ∀ x ∈ rn, 0 ≤ x ∧ x ≤ 1000000000
  w1 : IntKind.i64.wrap ((g.cells.length : Int) * snow) = (g.cells.length : Int) * snow
  w2 : IntKind.i64.wrap (lv.sum + (g.cells.length : Int) * snow) = lv.sum + (g.cells.length : Int) * snow
  w3 : IntKind.i64.wrap ((g.cells.length : Int) * rn.sum) = (g.cells.length : Int) * rn.sum
  w4 : IntKind.i64.wrap (lv.sum + (g.cells.length : Int) * snow + (g.cells.length : Int) * rn.sum) = lv.sum + (g.cells.length : Int) * snow + (g.cells.length : Int) * rn.sum
  fb : ∀ k, k ≤ days.length → ∀ i, i < g.cells.length → 0 ≤ (stR g days snow soak lv rn k).f i ∧ (stR g days snow soak lv rn k).f i ≤ 1000000000
  fc : ∀ k, k < days.length → ∀ i, i < g.cells.length → (stR g days snow soak lv rn (k + 1)).f i ≤ (cAt g.cells i).cap
  lb : ∀ k, k < days.length → 0 ≤ (stR g days snow soak lv rn (k + 1)).left ∧ (stR g days snow soak lv rn (k + 1)).left ≤ 1000000000
  s0 : 0 ≤ (stR g days snow soak lv rn days.length).snow
  w5 : IntKind.i64.wrap ((g.cells.length : Int) * (stR g days snow soak lv rn days.length).snow) = (g.cells.length : Int) * (stR g days snow soak lv rn days.length).snow
  w6 : IntKind.i64.wrap (sumN (stR g days snow soak lv rn days.length).f g.cells.length + (g.cells.length : Int) * (stR g days snow soak lv rn days.length).snow) = sumN (stR g days snow soak lv rn days.length).f g.cells.length + (g.cells.length : Int) * (stR g days snow soak lv rn days.length).snow
  w7 : IntKind.i64.wrap (sumN (stR g days snow soak lv rn days.length).f g.cells.length + (g.cells.length : Int) * (stR g days snow soak lv rn days.length).snow + sumN (fun j => (stR g days snow soak lv rn (j + 1)).left) days.length) = lv.sum + (g.cells.length : Int) * snow + (g.cells.length : Int) * rn.sum
theorem mul_bd {n : Nat} {x b : Int} (hn : n ≤ 8) (h0 : 0 ≤ x) (hb : x ≤ b) : 0 ≤ (n : Int) * x ∧ (n : Int) * x ≤ 8 * b := by
  have h1 : 0 ≤ (n : Int) * x := Int.mul_nonneg (by omega) h0
  have h2 : (n : Int) * x ≤ 8 * x := Int.mul_le_mul_of_nonneg_right (by omega) h0
  omega
theorem keptNum {g : Gnd} {days : List Day} {snow soak : Int} {lv rn : List Int} (hf : faultN g days = 0) (hfit : fitsB g days snow soak lv rn = true) : KeptNum g days snow soak lv rn := by
  have ok := wayOk_tr hf hfit
  have hl := fits_len hfit
  have hn := fault_some hf
  have hm := ok.many
  have hst := fun k hk => stAt_ok ok k hk
  have hkept := run_kept (melt := g.melt) (soak := soak) (days := days) (rain := rn) (x := ⟨iAt lv, snow, 0⟩) ok.cells days.length
  have hlv : lv.sum = sumN (iAt lv) g.cells.length := by rw [sum_list, hl.1]
  have hrn : rn.sum = sumN (iAt rn) days.length := by rw [sum_list, hl.2]
  have blv := sumN_bd (p := iAt lv) (b := 100000) g.cells.length (fun i hi => (hst 0 (by omega)).lv i hi)
  have brn := sumN_bd (p := iAt rn) (b := 1000) days.length (fun i hi => ok.rs i hi)
  have hs0 := (hst 0 (by omega)).snow0
  have hs1 := (hst 0 (by omega)).snow1
  have hN := hst days.length (Nat.le_refl _)
  have bf := sumN_bd (p := (stR g days snow soak lv rn days.length).f) (b := 100000) g.cells.length (fun i hi => hN.lv i hi)
  have bl := sumN_bd (p := fun j => (stR g days snow soak lv rn (j + 1)).left) (b := 100000000) days.length (fun i hi => ⟨(hst (i + 1) (by omega)).left0, (hst (i + 1) (by omega)).left1⟩)
  have hsN0 := hN.snow0
  have hsN1 := hN.snow1
  have m1 := mul_bd hn.2 (show 0 ≤ snow from hs0) (show snow ≤ 1000000 by simp only [stAt] at hs1; omega)
  have m2 := mul_bd (x := rn.sum) (b := 1000000) hn.2 (by omega) (by omega)
  have m3 := mul_bd (x := (stR g days snow soak lv rn days.length).snow) (b := 1000000) hn.2 hsN0 (by unfold stR; omega)
  have e : ∀ k, stAt g.cells g.melt soak days rn ⟨iAt lv, snow, 0⟩ k = stR g days snow soak lv rn k := fun _ => rfl
  simp only [e] at hkept
  rw [← hlv, ← hrn] at hkept
  refine ⟨hn.1, hn.2, hm, hl.1, hl.2, hlv, ?_, ?_, IntWalk.i64_in _ (by omega), IntWalk.i64_in _ (by omega), IntWalk.i64_in _ (by omega), IntWalk.i64_in _ (by omega), ?_, ?_, ?_, hsN0, IntWalk.i64_in _ (by omega), IntWalk.i64_in _ (by omega), ?_⟩
  · intro x hx
    obtain ⟨i, hi, rfl⟩ := mem_iAt hx
    have := (hst 0 (by omega)).lv i (by omega)
    simp only [stAt] at this
    omega
  · intro x hx
    obtain ⟨i, hi, rfl⟩ := mem_iAt hx
    have := ok.rs i (by omega)
    omega
  · intro k hk i hi
    have := (hst k hk).lv i hi
    simp only [e] at this
    omega
  · intro k hk i hi
    show newLv _ _ _ i ≤ _
    unfold newLv
    rw [if_pos hi]
    omega
  · intro k hk
    have a := (hst (k + 1) (by omega)).left0
    have b := (hst (k + 1) (by omega)).left1
    simp only [e] at a b
    omega
  · rw [IntWalk.i64_in _ (by omega)]
    exact hkept

set_option maxRecDepth 100000 in
set_option maxHeartbeats 2000000 in
theorem waterKept_walk (g : Gnd) (A : Option Addr) (cp : Nat) (days : List Day) (D : Option Addr) (dp : Nat) (ws : List Word) (V : Option Addr) (vp : Nat) (w : World) (hl : ws.length ≤ maxLen)
    (hc : Row cellL 7 w w.heap.size A g.cells) (hd : Row dayL 3 w w.heap.size D days) (hv : Row wordL 1 w w.heap.size V ws) :
    Calls Try.prog 9 #[gndV A cp g, .slice D days.length dp, .slice V ws.length vp] w fun e w' => e = .returned (.bool true) ∧ Below w.heap.size w w' := by
  have HV := Lib.hid hv
  have HL0 := Lib.hid (Lw.made (cp := cp) hc hd)
  clear hc hd hv
  have HRD := Lib.hid (ready_any g cp A days dp D (w.alloc (.cells (gndC A cp g) 26)) HL0.out.hc HL0.out.hd)
  by_cases hrd : readyB g days = true
  · obtain ⟨hs1, hs2, hfz⟩ := ready_zero hrd
    have HFZ := Lib.hid hfz
    rw [hrd] at HRD
    clear hrd hfz
    go_enter Try.func9, Try.ntmps9
    go_wp2_with fail
    refine (HRD.out).mono ?_
    rintro e w1 ⟨rfl, hb1⟩
    have H1 := Lib.hid (HL0.out.next hb1)
    clear hb1 HRD HL0
    have g0 := (H1.out.gb).at 0 (v := .slice A g.cells.length cp) rfl
    have g1 := (H1.out.gb).at 1 (v := vi g.slo) rfl
    have g2 := (H1.out.gb).at 2 (v := vi g.shi) rfl
    have g3 := (H1.out.gb).at 3 (v := vi g.klo) rfl
    have g4 := (H1.out.gb).at 4 (v := vi g.khi) rfl
    have g5 := (H1.out.gb).at 5 (v := vi g.melt) rfl
    go_wp2_with fail
    refine (picked_any g A cp days D dp ws V vp w1 HFZ.out hl H1.out.hc H1.out.hd ((HV.out.below H1.out.below).more H1.out.below.size)).mono ?_
    rintro e w2 ⟨⟨snow, soak, lv, rn, v, rfl, ⟨L, lp, R, rp, rfl, hL, hR⟩, hfit⟩, hb2⟩
    have H2 := Lib.hid (H1.out.next hb2)
    have HT2 := Lib.hid (Tb.made (snow := snow) (soak := soak) (lp := lp) (rp := rp) hL hR)
    have HF0 := Lib.hid (runN_ok HFZ.out hfit)
    have HNUM := Lib.hid (keptNum HFZ.out hfit)
    clear hL hR hfit hb2 H1 g0 g1 g2 g3 g4 g5
    go_wp2_with fail
    have HL := Lib.hid (H2.out.alloc (.cells (truC snow soak L lv.length lp R rn.length rp) 47))
    obtain ⟨wv, hwv⟩ : ∃ wv, wv = w2.alloc (.cells (truC snow soak L lv.length lp R rn.length rp) 47) := ⟨_, rfl⟩
    obtain ⟨tb, htb⟩ : ∃ tb, tb = w2.heap.size := ⟨_, rfl⟩
    have HT := HT2
    rw [← hwv, ← htb] at HT
    rw [← hwv] at HL
    rw [← hwv, ← htb]
    clear hwv htb H2 HT2 w2
    have hn8 := HNUM.out.n8
    have hm30 := HNUM.out.m30
    have hlvn := Nat.le_of_eq HNUM.out.lvn
    have hrnn := Nat.le_of_eq HNUM.out.rnn
    have HBD := Lib.hid (And.intro HNUM.out.lvb (And.intro HNUM.out.rnb True.intro))
    have HW8 := Lib.hid (And.intro HNUM.out.w1 (And.intro HNUM.out.w2 (And.intro HNUM.out.w3 HNUM.out.w4)))
    have g0 := (HL.out.gb).at 0 (v := .slice A g.cells.length cp) rfl
    have g1 := (HL.out.gb).at 1 (v := vi g.slo) rfl
    have g2 := (HL.out.gb).at 2 (v := vi g.shi) rfl
    have g3 := (HL.out.gb).at 3 (v := vi g.klo) rfl
    have g4 := (HL.out.gb).at 4 (v := vi g.khi) rfl
    have g5 := (HL.out.gb).at 5 (v := vi g.melt) rfl
    have t0 := (HT.out.tb).at 0 (v := vi snow) rfl
    have t1 := (HT.out.tb).at 1 (v := vi soak) rfl
    have t2 := (HT.out.tb).at 2 (v := .slice L lv.length lp) rfl
    have t3 := (HT.out.tb).at 3 (v := .slice R rn.length rp) rfl
    refine wp_words (by kernel_rfl) (region_told 15 (by kernel_rfl) (by kernel_rfl) (fun W => Below wv.heap.size wv W) newer (pickD [vIs (gndV A cp g), vGn g, vIs (.slice D days.length dp), vDy days, vIs (truthV snow soak L lv.length lp R rn.length rp), vTr snow soak lv rn, vRun g days snow soak lv rn, vRun g days snow soak lv rn, vT1 g.cells.length days.length (fun j i => (stR g days snow soak lv rn (j + 1)).f i), vT2 days.length (fun j => (stR g days snow soak lv rn (j + 1)).left), vIs (vi (stR g days snow soak lv rn days.length).snow), vIs (vi 0), vT1 g.cells.length days.length (fun j i => (stR g days snow soak lv rn (j + 1)).f i), vT2 days.length (fun j => (stR g days snow soak lv rn (j + 1)).left), vIs (vi (stR g days snow soak lv rn days.length).snow)]) (fun h k => newer_trans h k) (pickD_stable _ ⟨vIs_st, vGn_st, vIs_st, vDy_st, vIs_st, vTr_st, vRun_st, vRun_st, vT1_st, vT2_st, vIs_st, vIs_st, vT1_st, vT2_st, vIs_st, trivial⟩) (Below.refl _ wv).drew (Below.refl _ _) ?_ ?_)
    · refine ⟨?_, ?_, ?_, ?_, ?_, ?_, ?_, ?_, ?_, ?_, ?_, ?_, ?_, ?_, ?_, trivial⟩
      · intro a W hG hR hO hp
        have h3 := hO.slot 3 (by kernel_rfl)
        have c0 := keep_cell g0 hG
        have c1 := keep_cell g1 hG
        have c2 := keep_cell g2 hG
        have c3 := keep_cell g3 hG
        have c4 := keep_cell g4 hG
        have c5 := keep_cell g5 hG
        refine wp_yields (v := gndV A cp g) ?_ ⟨_, rfl, rfl, Below.refl _ _, hG⟩
        simp [slotOf] at h3
        simp [execOp, go_sem, h3, c0, c1, c2, c3, c4, c5]
      · intro a W hG hR hO hp
        have h27 : slotOf a 27 = gndV A cp g := hp.1
        refine wp_enters (f := 19) (args := #[gndV A cp g]) ?_ ((lawGround g A cp W (by omega) (HL.out.next hG).hc).mono ?_)
        · simp [slotOf] at h27
          simp [go_sem, h27]
        · rintro e w' ⟨Ax, cx, rfl, h2, hb⟩
          exact ⟨_, rfl, _, rfl, ⟨Ax, cx, rfl, h2⟩, hb, below_next hG hb⟩
      · intro a W hG hR hO hp
        have h1 := hO.slot 1 (by kernel_rfl)
        refine wp_yields (v := .slice D days.length dp) ?_ ⟨_, rfl, rfl, Below.refl _ _, hG⟩
        simp [slotOf] at h1
        simp [execOp, go_sem, h1]
      · intro a W hG hR hO hp
        have h29 : slotOf a 29 = .slice D days.length dp := hp.1
        refine wp_enters (f := 20) (args := #[.slice D days.length dp]) ?_ ((lawDays days D dp W (by omega) (HL.out.next hG).hd).mono ?_)
        · simp [slotOf] at h29
          simp [go_sem, h29]
        · rintro e w' ⟨Ax, cx, rfl, h2, hb⟩
          exact ⟨_, rfl, _, rfl, ⟨Ax, cx, rfl, h2⟩, hb, below_next hG hb⟩
      · intro a W hG hR hO hp
        have h7 := hO.slot 7 (by kernel_rfl)
        have c0 := keep_cell t0 hG
        have c1 := keep_cell t1 hG
        have c2 := keep_cell t2 hG
        have c3 := keep_cell t3 hG
        refine wp_yields (v := truthV snow soak L lv.length lp R rn.length rp) ?_ ⟨_, rfl, rfl, Below.refl _ _, hG⟩
        simp [slotOf] at h7
        simp [execOp, go_sem, h7, c0, c1, c2, c3]
      · intro a W hG hR hO hp
        have h31 : slotOf a 31 = truthV snow soak L lv.length lp R rn.length rp := hp.1
        refine wp_enters (f := 33) (args := #[truthV snow soak L lv.length lp R rn.length rp]) ?_ ((lawTruth snow soak lv rn L lp R rp W (by omega) (by omega) (HT.out.next hG).hl (HT.out.next hG).hr).mono ?_)
        · simp [slotOf] at h31
          simp [go_sem, h31]
        · rintro e w' ⟨⟨vx, rfl, hv⟩, hb⟩
          exact ⟨_, rfl, _, rfl, hv, hb, below_next hG hb⟩
      · intro a W hG hR hO hp
        have h28 := hp.1
        have h30 := hp.2.1
        have h32 := hp.2.2.1
        obtain ⟨Ag, cg, h28, hrg⟩ := h28
        obtain ⟨Ad, cd, h30, hrd⟩ := h30
        obtain ⟨Lt, lt, Rt, rt, h32, hrl, hrr⟩ := h32
        refine wp_enters (f := 32) (args := #[gndV Ag cg g, .slice Ad days.length cd, truthV snow soak Lt lv.length lt Rt rn.length rt]) ?_ ((run_yes g Ag cg days Ad cd snow soak lv Lt lt rn Rt rt W (by omega) (by omega) (by omega) (by omega) hrg hrd hrl hrr HF0.out).mono ?_)
        · simp [slotOf] at h28 h30 h32
          simp [go_sem, h28, h30, h32]
        · rintro e w' ⟨⟨vx, rfl, hv⟩, hb⟩
          exact ⟨_, rfl, _, rfl, hv, hb, below_next hG hb⟩
      · intro a W hG hR hO hp
        have h33 := hp.1
        obtain ⟨v1, v2, h33, hv1, hv2⟩ := h33
        refine wp_yields (v := .tuple #[v1, v2, vi (stR g days snow soak lv rn days.length).snow, vi 0]) ?_ ⟨_, rfl, ⟨v1, v2, rfl, hv1, hv2⟩, Below.refl _ _, hG⟩
        simp [slotOf] at h33
        simp [execOp, go_sem, h33]
      · intro a W hG hR hO hp
        have h26 := hp.1
        obtain ⟨v1, v2, h26, hv1, hv2⟩ := h26
        refine wp_yields (v := v1) ?_ ⟨_, rfl, hv1, Below.refl _ _, hG⟩
        simp [slotOf] at h26
        simp [execOp, go_sem, h26]
      · intro a W hG hR hO hp
        have h26 := hp.1
        obtain ⟨v1, v2, h26, hv1, hv2⟩ := h26
        refine wp_yields (v := v2) ?_ ⟨_, rfl, hv2, Below.refl _ _, hG⟩
        simp [slotOf] at h26
        simp [execOp, go_sem, h26]
      · intro a W hG hR hO hp
        have h26 := hp.1
        obtain ⟨v1, v2, h26, hv1, hv2⟩ := h26
        refine wp_yields (v := vi (stR g days snow soak lv rn days.length).snow) ?_ ⟨_, rfl, rfl, Below.refl _ _, hG⟩
        simp [slotOf] at h26
        simp [execOp, go_sem, h26]
      · intro a W hG hR hO hp
        have h26 := hp.1
        obtain ⟨v1, v2, h26, hv1, hv2⟩ := h26
        refine wp_yields (v := vi 0) ?_ ⟨_, rfl, rfl, Below.refl _ _, hG⟩
        simp [slotOf] at h26
        simp [execOp, go_sem, h26]
      · intro a W hG hR hO hp
        have h34 := hp.1
        obtain ⟨Qx, cqx, Ax, cx, bx, h34, hq1, hq2⟩ := h34
        refine wp_yields (v := .slice Qx days.length cqx) ?_ ⟨_, rfl, ⟨Qx, cqx, Ax, cx, bx, rfl, hq1, hq2⟩, Below.refl _ _, hG⟩
        simp [slotOf] at h34
        simp [execOp, go_sem, h34]
      · intro a W hG hR hO hp
        have h35 := hp.1
        obtain ⟨Qx, cqx, bx, h35, hq1⟩ := h35
        refine wp_yields (v := .slice Qx days.length cqx) ?_ ⟨_, rfl, ⟨Qx, cqx, bx, rfl, hq1⟩, Below.refl _ _, hG⟩
        simp [slotOf] at h35
        simp [execOp, go_sem, h35]
      · intro a W hG hR hO hp
        have h36 : slotOf a 36 = vi (stR g days snow soak lv rn days.length).snow := hp.1
        refine wp_yields (v := vi (stR g days snow soak lv rn days.length).snow) ?_ ⟨_, rfl, rfl, Below.refl _ _, hG⟩
        simp [slotOf] at h36
        simp [execOp, go_sem, h36]
    · intro W hG hR
      rintro _ rfl _ ⟨_, _, rfl, -⟩ _ rfl _ ⟨_, _, rfl, -⟩ _ rfl _ ⟨_, _, _, _, rfl, -, -⟩ _ ⟨_, _, rfl, -, -⟩ _ ⟨_, _, rfl, -, -⟩ _ ⟨_, _, _, _, _, rfl, -, -⟩ _ ⟨_, _, _, rfl, -⟩ _ rfl _ rfl _ ⟨Q1, cq1, Af, cf, bs1, rfl, hT1, hR1⟩ _ ⟨Q2, cq2, bs2, rfl, hT2⟩ _ rfl
      change wpList _ _ _ _ _ _
      simp only [Act.put, List.setIfInBounds_toArray, List.set_cons_zero, List.set_cons_succ, List.drop_succ_cons, List.drop_zero]
      have HY := Lib.hid (HL.out.next hG)
      have HTY := Lib.hid (HT.out.next hG)
      have HV1 := Lib.hid (show vT1 g.cells.length days.length (fun j i => (stR g days snow soak lv rn (j + 1)).f i) (.slice Q1 days.length cq1) _ from ⟨Q1, cq1, Af, cf, bs1, rfl, hT1, hR1⟩)
      have HV2 := Lib.hid (show vT2 days.length (fun j => (stR g days snow soak lv rn (j + 1)).left) (.slice Q2 days.length cq2) _ from ⟨Q2, cq2, bs2, rfl, hT2⟩)
      clear hG hR hT1 hR1 hT2 HL HT g0 g1 g2 g3 g4 g5 t0 t1 t2 t3
      obtain ⟨wv, hwv⟩ : ∃ wv, wv = W := ⟨_, rfl⟩
      rw [← hwv] at HY HTY HV1 HV2 ⊢
      clear hwv W
      have HL := HY
      have HT := HTY
      clear HY HTY
      have g0 := (HL.out.gb).at 0 (v := .slice A g.cells.length cp) rfl
      have g1 := (HL.out.gb).at 1 (v := vi g.slo) rfl
      have g2 := (HL.out.gb).at 2 (v := vi g.shi) rfl
      have g3 := (HL.out.gb).at 3 (v := vi g.klo) rfl
      have g4 := (HL.out.gb).at 4 (v := vi g.khi) rfl
      have g5 := (HL.out.gb).at 5 (v := vi g.melt) rfl
      have t0 := (HT.out.tb).at 0 (v := vi snow) rfl
      have t1 := (HT.out.tb).at 1 (v := vi soak) rfl
      have t2 := (HT.out.tb).at 2 (v := .slice L lv.length lp) rfl
      have t3 := (HT.out.tb).at 3 (v := .slice R rn.length rp) rfl
      go_wp2_with fail
      refine wp_words (by kernel_rfl) (region_told 14 (by kernel_rfl) (by kernel_rfl) (fun W => Below wv.heap.size wv W) newer (pickD [vIs (.pointer (some ⟨tb, 2, none⟩)), vIs (.slice L lv.length lp), vIs (vi lv.sum), vIs (vi (g.cells.length : Int)), vIs (.pointer (some ⟨tb, 0, none⟩)), vIs (vi snow), vIs (vi ((g.cells.length : Int) * snow)), vIs (vi (lv.sum + (g.cells.length : Int) * snow)), vIs (vi (g.cells.length : Int)), vIs (.pointer (some ⟨tb, 3, none⟩)), vIs (.slice R rn.length rp), vIs (vi rn.sum), vIs (vi ((g.cells.length : Int) * rn.sum)), vIs (vi (lv.sum + (g.cells.length : Int) * snow + (g.cells.length : Int) * rn.sum))]) (fun h k => newer_trans h k) (pickD_stable _ ⟨vIs_st, vIs_st, vIs_st, vIs_st, vIs_st, vIs_st, vIs_st, vIs_st, vIs_st, vIs_st, vIs_st, vIs_st, vIs_st, vIs_st, trivial⟩) (Below.refl _ wv).drew (Below.refl _ _) ?_ ?_)
      · refine ⟨?_, ?_, ?_, ?_, ?_, ?_, ?_, ?_, ?_, ?_, ?_, ?_, ?_, ?_, trivial⟩
        · intro a W hG hR hO hp
          have h7 := hO.slot 7 (by kernel_rfl)
          refine wp_yields (v := .pointer (some ⟨tb, 2, none⟩)) ?_ ⟨_, rfl, rfl, Below.refl _ _, hG⟩
          simp [slotOf] at h7
          simp [execOp, go_sem, h7]
        · intro a W hG hR hO hp
          have h57 : slotOf a 57 = .pointer (some ⟨tb, 2, none⟩) := hp.1
          have c0 := keep_cell t2 hG
          refine wp_yields (v := .slice L lv.length lp) ?_ ⟨_, rfl, rfl, Below.refl _ _, hG⟩
          simp [slotOf] at h57
          simp [execOp, go_sem, h57, c0]
        · intro a W hG hR hO hp
          have h58 : slotOf a 58 = .slice L lv.length lp := hp.1
          refine wp_enters (f := 39) (args := #[.slice L lv.length lp]) ?_ ((sum_any lv L lp W (by omega) HBD.out.1 (HT.out.next hG).hl).mono ?_)
          · simp [slotOf] at h58
            simp [go_sem, h58]
          · rintro e w' ⟨rfl, hb⟩
            exact ⟨_, rfl, _, rfl, rfl, hb, below_next hG hb⟩
        · intro a W hG hR hO hp
          have h12 := hO.slot 12 (by kernel_rfl)
          refine wp_yields (v := vi (g.cells.length : Int)) ?_ ⟨_, rfl, rfl, Below.refl _ _, hG⟩
          simp [slotOf] at h12
          simp [execOp, go_sem, h12]
        · intro a W hG hR hO hp
          have h7 := hO.slot 7 (by kernel_rfl)
          refine wp_yields (v := .pointer (some ⟨tb, 0, none⟩)) ?_ ⟨_, rfl, rfl, Below.refl _ _, hG⟩
          simp [slotOf] at h7
          simp [execOp, go_sem, h7]
        · intro a W hG hR hO hp
          have h61 : slotOf a 61 = .pointer (some ⟨tb, 0, none⟩) := hp.1
          have c0 := keep_cell t0 hG
          refine wp_yields (v := vi snow) ?_ ⟨_, rfl, rfl, Below.refl _ _, hG⟩
          simp [slotOf] at h61
          simp [execOp, go_sem, h61, c0]
        · intro a W hG hR hO hp
          have h60 : slotOf a 60 = vi (g.cells.length : Int) := hp.1
          have h62 : slotOf a 62 = vi snow := hp.2.1
          refine wp_yields (v := vi ((g.cells.length : Int) * snow)) ?_ ⟨_, rfl, rfl, Below.refl _ _, hG⟩
          simp [slotOf] at h60 h62
          simp [execOp, go_sem, h60, h62, HW8.out.1]
        · intro a W hG hR hO hp
          have h59 : slotOf a 59 = vi lv.sum := hp.1
          have h63 : slotOf a 63 = vi ((g.cells.length : Int) * snow) := hp.2.1
          refine wp_yields (v := vi (lv.sum + (g.cells.length : Int) * snow)) ?_ ⟨_, rfl, rfl, Below.refl _ _, hG⟩
          simp [slotOf] at h59 h63
          simp [execOp, go_sem, h59, h63, HW8.out.2.1]
        · intro a W hG hR hO hp
          have h12 := hO.slot 12 (by kernel_rfl)
          refine wp_yields (v := vi (g.cells.length : Int)) ?_ ⟨_, rfl, rfl, Below.refl _ _, hG⟩
          simp [slotOf] at h12
          simp [execOp, go_sem, h12]
        · intro a W hG hR hO hp
          have h7 := hO.slot 7 (by kernel_rfl)
          refine wp_yields (v := .pointer (some ⟨tb, 3, none⟩)) ?_ ⟨_, rfl, rfl, Below.refl _ _, hG⟩
          simp [slotOf] at h7
          simp [execOp, go_sem, h7]
        · intro a W hG hR hO hp
          have h66 : slotOf a 66 = .pointer (some ⟨tb, 3, none⟩) := hp.1
          have c0 := keep_cell t3 hG
          refine wp_yields (v := .slice R rn.length rp) ?_ ⟨_, rfl, rfl, Below.refl _ _, hG⟩
          simp [slotOf] at h66
          simp [execOp, go_sem, h66, c0]
        · intro a W hG hR hO hp
          have h67 : slotOf a 67 = .slice R rn.length rp := hp.1
          refine wp_enters (f := 39) (args := #[.slice R rn.length rp]) ?_ ((sum_any rn R rp W (by omega) HBD.out.2.1 (HT.out.next hG).hr).mono ?_)
          · simp [slotOf] at h67
            simp [go_sem, h67]
          · rintro e w' ⟨rfl, hb⟩
            exact ⟨_, rfl, _, rfl, rfl, hb, below_next hG hb⟩
        · intro a W hG hR hO hp
          have h65 : slotOf a 65 = vi (g.cells.length : Int) := hp.1
          have h68 : slotOf a 68 = vi rn.sum := hp.2.1
          refine wp_yields (v := vi ((g.cells.length : Int) * rn.sum)) ?_ ⟨_, rfl, rfl, Below.refl _ _, hG⟩
          simp [slotOf] at h65 h68
          simp [execOp, go_sem, h65, h68, HW8.out.2.2.1]
        · intro a W hG hR hO hp
          have h64 : slotOf a 64 = vi (lv.sum + (g.cells.length : Int) * snow) := hp.1
          have h69 : slotOf a 69 = vi ((g.cells.length : Int) * rn.sum) := hp.2.1
          refine wp_yields (v := vi (lv.sum + (g.cells.length : Int) * snow + (g.cells.length : Int) * rn.sum)) ?_ ⟨_, rfl, rfl, Below.refl _ _, hG⟩
          simp [slotOf] at h64 h69
          simp [execOp, go_sem, h64, h69, HW8.out.2.2.2]
      · intro W hG hR
        rintro _ rfl _ rfl _ rfl _ rfl _ rfl _ rfl _ rfl _ rfl _ rfl _ rfl _ rfl _ rfl _ rfl _ rfl
        change wpList _ _ _ _ _ _
        simp only [Act.put, List.setIfInBounds_toArray, List.set_cons_zero, List.set_cons_succ, List.drop_succ_cons, List.drop_zero]
        have HY := Lib.hid (HL.out.next hG)
        have HTY := Lib.hid (HT.out.next hG)
        have HV1' := Lib.hid (vT1_st _ _ _ HV1.out hG)
        have HV2' := Lib.hid (vT2_st _ _ _ HV2.out hG)
        clear hG hR HL HT HV1 HV2 g0 g1 g2 g3 g4 g5 t0 t1 t2 t3
        obtain ⟨wv, hwv⟩ : ∃ wv, wv = W := ⟨_, rfl⟩
        rw [← hwv] at HY HTY HV1' HV2' ⊢
        clear hwv W
        have HS0 := Lib.hid (sum_any lv L lp wv (by omega) HBD.out.1 HTY.out.hl)
        have t0 := (HTY.out.tb).at 0 (v := vi snow) rfl
        have t1 := (HTY.out.tb).at 1 (v := vi soak) rfl
        have t2 := (HTY.out.tb).at 2 (v := .slice L lv.length lp) rfl
        have t3 := (HTY.out.tb).at 3 (v := .slice R rn.length rp) rfl
        go_wp2_with fail
        refine (HS0.out).mono ?_
        rintro e w5 ⟨rfl, hb5⟩
        have H5 := Lib.hid (HY.out.next hb5)
        have HV15 := Lib.hid (vT1_st _ _ _ HV1'.out hb5)
        have HV25 := Lib.hid (vT2_st _ _ _ HV2'.out hb5)
        have hlv0 := HNUM.out.lv0
        clear HY HTY HV1' HV2' HS0 t0 t1 t2 t3 hb5 HBD HW8
        obtain ⟨came, hcame⟩ : ∃ came, came = lv.sum + (g.cells.length : Int) * snow + (g.cells.length : Int) * rn.sum := ⟨_, rfl⟩
        have HCA := Lib.hid hcame
        rw [← hcame, hlv0]
        clear hcame hlv0
        go_wp2_with fail
        obtain ⟨snN, hsnN⟩ : ∃ snN, snN = (stR g days snow soak lv rn days.length).snow := ⟨_, rfl⟩
        have HSN := Lib.hid hsnN
        rw [← hsnN]
        clear hsnN
        go_loopw [14, 15] (fun s14 s15 wr => ∃ k : Nat, k ≤ days.length ∧ s15 = .int .i64 k ∧ s14 = vi (sumN (stR g days snow soak lv rn k).f g.cells.length) ∧ newer w5 wr) (fun _ s15 _ => days.length - (intOf s15).toNat)
        case atStart => exact ⟨0, Nat.zero_le _, rfl, rfl, Below.refl _ _⟩
        case round =>
          obtain ⟨k, hk, rfl, rfl, hnw⟩ := hrel
          have HX := Lib.hid (H5.out.next hnw)
          have HX1 := Lib.hid (vT1_st _ _ _ HV15.out hnw)
          have HX2 := Lib.hid (vT2_st _ _ _ HV25.out hnw)
          have HNW := Lib.hid hnw
          clear hnw
          by_cases hlt : k < days.length
          · have hkm : (k : Int) < days.length := by omega
            obtain ⟨q1, Ay, cy, e1, y1, hry⟩ := vT1_at HX1.out hlt
            obtain ⟨q2, e2, z2⟩ := vT2_at HX2.out hlt
            have HR := Lib.hid hry
            subst e1
            subst e2
            obtain ⟨lf, hlf⟩ : ∃ lf, lf = (stR g days snow soak lv rn (k + 1)).left := ⟨_, rfl⟩
            have hl0 : ¬ (lf < 0) := by have := (HNUM.out.lb k hlt).1; omega
            rw [← hlf] at z2
            clear hlf hry
            go_wp2_with fail
            go_loopw [16] (fun s16 w6 => ∃ i : Nat, i ≤ g.cells.length ∧ s16 = .int .i64 i ∧ newer wr w6) (fun s16 _ => g.cells.length - (intOf s16).toNat)
            case atStart => exact ⟨0, Nat.zero_le _, rfl, Below.refl _ _⟩
            case round =>
              obtain ⟨i, hi, rfl, hn6⟩ := hrel
              have H6 := Lib.hid (HX.out.next hn6)
              have y6 := keep_cell y1 hn6
              have HN6 := Lib.hid (newer_trans HNW.out hn6)
              have HR6 := Lib.hid ((HR.out.below hn6).more hn6.size)
              have HN7 := Lib.hid hn6
              clear hn6 y1 z2
              by_cases hli : i < g.cells.length
              · have hki : (i : Int) < g.cells.length := by omega
                obtain ⟨b, off, e2, _, z1⟩ := cells_of_row HR6.out hli
                obtain ⟨c, hci⟩ := get_of_lt hli
                obtain ⟨bg, og, e3, _, _, _, c2, _⟩ := row7 H6.out.hc hci
                have hf0 := (HNUM.out.fb (k + 1) (by omega) i hli).1
                have hfc := HNUM.out.fc k hlt i hli
                rw [cAt_of hci] at hfc
                subst e2
                subst e3
                obtain ⟨fx, hfx⟩ : ∃ fx, fx = (stR g days snow soak lv rn (k + 1)).f i := ⟨_, rfl⟩
                rw [← hfx] at z1 hf0 hfc
                clear hfx hci
                have hf1 : ¬ (fx < 0) := by omega
                have hf2 : ¬ (c.cap < fx) := by omega
                clear hf0 hfc
                have g0 := H6.out.gb.at 0 (v := .slice (some ⟨bg, og, none⟩) g.cells.length cp) rfl
                go_wp2_with fail
                go_quiet (fail)
                go_wp2_with fail
                exact ⟨⟨i + 1, by omega, by go_num, newer_trans HN7.out (newer_drewN _ _)⟩, by (simp only [intOf]; omega)⟩
              · obtain rfl : i = g.cells.length := by omega
                go_wp2_with fail
                refine (sumRow_any g.cells.length _ Ay cy wr (by omega) (HNUM.out.fb (k + 1) (by omega)) HR6.out).mono ?_
                rintro e w7 ⟨rfl, hb7⟩
                have HN8 := Lib.hid (newer_trans HN6.out hb7)
                clear hb7
                go_wp2_with fail
                exact ⟨⟨k + 1, by omega, by go_num, rfl, HN8.out⟩, by (simp only [intOf]; omega)⟩
          · obtain rfl : k = days.length := by omega
            have HS2 := Lib.hid (sumRow_any days.length _ Q2 cq2 wr (by omega) HNUM.out.lb (vT2_row HX2.out))
            have HW5 := Lib.hid HNUM.out.w5
            have HW6 := Lib.hid HNUM.out.w6
            have HW7 := Lib.hid HNUM.out.w7
            have hs0 := HNUM.out.s0
            obtain ⟨lN, hlN⟩ : ∃ lN, lN = sumN (fun j => (stR g days snow soak lv rn (j + 1)).left) days.length := ⟨_, rfl⟩
            obtain ⟨fN, hfN⟩ : ∃ fN, fN = sumN (stR g days snow soak lv rn days.length).f g.cells.length := ⟨_, rfl⟩
            rw [← hlN] at HS2
            have k5 := HW5.out
            have k6 := HW6.out
            have k7 := HW7.out
            have hca := HCA.out
            have hsn := HSN.out
            rw [← hfN, ← hlN, ← hsn, ← hca] at k7
            rw [← hfN, ← hsn] at k6
            rw [← hsn] at k5 hs0
            rw [← hfN]
            clear hfN hlN HW5 HW6 HW7 hca hsn
            go_wp2_with fail
            refine (HS2.out).mono ?_
            rintro e w7 ⟨rfl, hb7⟩
            have H7 := Lib.hid (HX.out.next hb7)
            clear hb7 HS2
            go_wp2_with fail
            refine (wakes_any _).mono ?_
            rintro e w8 ⟨rfl, hb8⟩
            have HF := Lib.hid (H7.out.next hb8).below
            clear hb8
            go_wp2_with fail
            go_ret
            exact ⟨rfl, HF.out⟩
  · have hrf : readyB g days = false := by simpa using hrd
    rw [hrf] at HRD
    clear hrd hrf
    go_enter Try.func9, Try.ntmps9
    go_wp2_with fail
    refine (HRD.out).mono ?_
    rintro e w1 ⟨rfl, hb1⟩
    have H1 := Lib.hid (HL0.out.next hb1)
    clear hb1 HRD
    go_wp2_with fail
    refine (wakes_any _).mono ?_
    rintro e w2 ⟨rfl, hb2⟩
    have HF := Lib.hid (H1.out.next hb2).below
    clear hb2 H1
    go_wp2_with fail
    go_ret
    exact ⟨rfl, HF.out⟩

set_option maxRecDepth 100000 in
set_option maxHeartbeats 1000000 in
theorem waterKept_lifted (os : Os) (started : os.Started) (H : Type) (enc : TypeId × Value → H) :
    ReturnsInHanded {} Try.checked os 9 .any (Rows.waterKeptSpec.pre6 enc Try.prog Try.f9 Rows.waterKeptRow.domain false) (Rows.waterKeptSpec.post enc Try.prog Try.f9 false true false false) := by
  refine returnsInHanded_of_change (C := Try.checked) Try.own started (by kernel_rfl) Try.func9
    (ChangeSpec.witness6 (enc := enc) (C := Try.checked) false ⟨#[], #[.agg #[.slice none 0 0, .int .i64 0, .int .i64 0, .int .i64 0, .int .i64 0, .int .i64 0], .slice none 0 0, .slice none 0 0], []⟩ 8 (by kernel_rfl) (by kernel_rfl) (by kernel_rfl) (by kernel_rfl)) ?_
  intro W base args ds gs before hval0 hW hcnd _
  have hval : ∀ (j : Nat) t v, Try.f9.params[j]? = some t → args[j]? = some v → Value.okWide Try.prog W .any base t v := hval0
  have hW' := hW
  obtain ⟨p, q, hA0, hV, rfl, hfz, hnd⟩ := hW
  have hA : DataW.TrodAll enc Try.prog W 0 (fun _ => true) true Try.f9.params.toList args.toList ds p := hA0
  rw [Try.params9] at hA hval
  obtain ⟨v0, vs0, d0, ds0, p0, q0, hargs, rfl, rfl, h0, r0⟩ := trodAll_cons hA
  obtain ⟨v1, vs1, d1, ds1, p1, q1, rfl, rfl, rfl, h1, r1⟩ := trodAll_cons r0
  obtain ⟨v2, vs2, d2, ds2, p2, q2, rfl, rfl, rfl, h2, r2⟩ := trodAll_cons r1
  obtain ⟨rfl, rfl, rfl⟩ := trodAll_nil r2
  obtain rfl : args = #[v0, v1, v2] := by cases args; simp_all
  obtain ⟨rfl, rfl⟩ := trodVars_none hV
  obtain ⟨c0, rfl, hs0⟩ := okWide_struct Try.underlying26 (hval 0 26 v0 rfl rfl)
  have k0 := h0
  have lt0 : ∀ x ∈ p0, x.block < W.heap.size := by obtain ⟨m, hm⟩ := k0; exact DataW.trod_lt m _ _ _ hm
  obtain ⟨g0, A0, cp0, e0, hl0, hrow0⟩ : ∃ (g : Gnd) (A : Option Addr) (cp : Nat), c0.toList = [.slice A g.cells.length cp, vi g.slo, vi g.shi, vi g.klo, vi g.khi, vi g.melt] ∧ g.cells.length ≤ maxLen ∧ Row cellL 7 W W.heap.size A g.cells := by
    obtain ⟨fuel, hf⟩ := h0
    exact ground_open hf
  obtain rfl : c0 = gndC A0 cp0 g0 := by cases c0; simp_all
  obtain ⟨a1, len1, cap1, rfl⟩ := okWide_slice Try.underlying27 (hval 1 27 v1 rfl rfl)
  have k1 := h1
  have lt1 : ∀ x ∈ p1, x.block < W.heap.size := by obtain ⟨m, hm⟩ := k1; exact DataW.trod_lt m _ _ _ hm
  obtain ⟨D1, l1, dp1, e1, hl1, hrow1⟩ : ∃ (D : Option Addr) (l : List Day) (dp : Nat), (Value.slice a1 len1 cap1).cells.toList = [.slice D l.length dp] ∧ l.length ≤ maxLen ∧ Row dayL 3 W W.heap.size D l := by
    obtain ⟨fuel, hf⟩ := h1
    exact days_open hf
  simp [Value.cells] at e1
  obtain ⟨rfl, rfl, rfl⟩ := e1
  obtain ⟨a2, len2, cap2, rfl⟩ := okWide_slice Try.underlying68 (hval 2 68 v2 rfl rfl)
  have k2 := h2
  have lt2 : ∀ x ∈ p2, x.block < W.heap.size := by obtain ⟨m, hm⟩ := k2; exact DataW.trod_lt m _ _ _ hm
  obtain ⟨D2, l2, dp2, e2, hl2, hrow2⟩ : ∃ (D : Option Addr) (l : List Word) (dp : Nat), (Value.slice a2 len2 cap2).cells.toList = [.slice D l.length dp] ∧ l.length ≤ maxLen ∧ Row wordL 1 W W.heap.size D l := by
    obtain ⟨fuel, hf⟩ := h2
    exact words_open hf
  simp [Value.cells] at e2
  obtain ⟨rfl, rfl, rfl⟩ := e2
  clear hA0 hval0
  refine (waterKept_walk g0 A0 cp0 l1 a1 cap1 l2 a2 cap2 W hl2 hrow0 hrow1 hrow2).mono fun e W' ⟨he, bel⟩ => ?_
  subst he
  exact ⟨_, rfl, _, _, _, [], _, [], hW', trodAll_mk1 (shut_bool Try.underlying4 _), (trodAll_cons_mk (Below.trod Try.laidOut (by kernel_rfl) (of_decide_eq_true (by kernel_rfl)) k0 bel lt0) (trodAll_cons_mk (Below.trod Try.laidOut (by kernel_rfl) (of_decide_eq_true (by kernel_rfl)) k1 bel lt1) (trodAll_cons_mk (Below.trod Try.laidOut (by kernel_rfl) (of_decide_eq_true (by kernel_rfl)) k2 bel lt2) trodAll_mk0))), rfl, bel.frame _, fun h => by cases h⟩

theorem waterKept_holds : Rows.WaterKeptSaid :=
  OpenClaim.holds_of_wide 9 Try.f9 rfl rfl rfl rfl rfl rfl rfl ⟨rfl, rfl, rfl, rfl, rfl⟩ rfl rfl rfl rfl rfl (by kernel_rfl) Try.func9 (by kernel_rfl)
    (of_decide_eq_true (by kernel_rfl)) (by unfold Func.isWrapper; first | (rw [if_pos (by decide +kernel)]; kernel_rfl) | (rw [if_neg (by decide +kernel)]; exact ⟨rfl, rfl⟩))
    (fun os started H enc _ => waterKept_lifted os started H enc)
#print axioms waterKept_holds
end Go.Proofs.Yteonkhohloabfaa
