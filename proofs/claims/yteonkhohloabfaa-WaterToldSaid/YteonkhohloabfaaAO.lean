/- The law WaterBehind returns true for every ground, all days and every number of days, and leaves what it was given as it was. -/
import Derived.Test.YteonkhohloabfaaAH
namespace Go.Proofs.Yteonkhohloabfaa
open Go.ChangeShapes Go.WideShapes Go.ChangeAt Go.RowKit Go.Deep

/-! ## The first days alone -/
theorem dAt_take {days : List Day} {n k : Nat} (h : k < n) : dAt (days.take n) k = dAt days k := by
  unfold dAt
  rw [List.getElem?_take, if_pos h]
theorem iAt_take {l : List Int} {n k : Nat} (h : k < n) : iAt (l.take n) k = iAt l k := by
  unfold iAt
  rw [List.getElem?_take, if_pos h]
theorem stAt_take (l : List Cell) (melt soak : Int) (days : List Day) (rain : List Int) (x : St) (n : Nat) : ∀ k, k ≤ n → stAt l melt soak (days.take n) (rain.take n) x k = stAt l melt soak days rain x k
  | 0, _ => rfl
  | k + 1, h => by
    show dayStep _ _ _ _ _ _ = dayStep _ _ _ _ _ _
    rw [dAt_take (by omega), iAt_take (by omega), stAt_take l melt soak days rain x n k (by omega)]
theorem stE_take (hi : Bool) (g : Gnd) (days : List Day) (n k : Nat) (h : k ≤ n) : stE hi g (days.take n) k = stE hi g days k := by
  unfold stE
  rw [List.map_take]
  exact stAt_take _ _ _ _ _ _ n k h
theorem fault_take {g : Gnd} {days : List Day} (h : faultN g days = 0) (n : Nat) : faultN g (days.take n) = 0 := by
  obtain ⟨h1, h2, h3⟩ := fault_zero h
  unfold faultN
  rw [if_pos h1, if_neg (by rw [List.length_take]; omega), if_pos]
  rw [List.all_eq_true] at h3 ⊢
  exact fun x hx => h3 x (List.mem_of_mem_take hx)
theorem row_take {α : Type} {enc : α → List Value} {s : Nat} {w : World} {B : Nat} {A : Option Addr} {l : List α} (h : Row enc s w B A l) (n : Nat) : Row enc s w B A (l.take n) := fun hne => by
  have hl : l ≠ [] := by rintro rfl; simp at hne
  obtain ⟨b, off, e, hb, hc⟩ := h hl
  refine ⟨b, off, e, hb, fun k x hk => hc k x ?_⟩
  rw [List.getElem?_take] at hk
  split at hk
  · exact hk
  · cases hk

theorem days_cap {H : Type} {enc : TypeId × Value → H} {w : World} {base : Nat} {spare : Nat → Bool} {held : Bool} {fuel : Nat} {D : Option Addr} {n dp : Nat} {x : DataW H × List MemPlace} (h : DataW.trod enc Try.prog w base spare held fuel 27 [.slice D n dp] = some x) : n ≤ dp ∧ (D = none → dp = 0) := by
  rcases open_slice Try.underlying27 h with ⟨e, _⟩ | ⟨a, len, cap, m, n', D', Pl, e, _, hl, _⟩
  · injection e with e
    injection e with e1 e2 e3
    subst e2
    subst e3
    exact ⟨Nat.le_refl _, fun _ => rfl⟩
  · injection e with e
    injection e with e1 e2 e3
    subst e1
    subst e2
    subst e3
    exact ⟨hl, fun h => by cases h⟩

/-- The table of levels, one of its two lists at hand. -/
def tabE (W : World) (base : Nat) (g : Gnd) (days : List Day) (v1 v2 : Value) (gb : Nat → Nat) : Prop := Tab W base g.cells.length v1 v2 gb days.length (fun j i => (stE false g days (j + 1)).f i) (fun j i => (stE true g days (j + 1)).f i) (fun j => (stE false g days (j + 1)).snow) (fun j => (stE true g days (j + 1)).snow)
def vLvs (g : Gnd) (days : List Day) (v : Value) (W : World) : Prop := ∃ B c v2 gb base, v = .slice B days.length c ∧ tabE W base g days (.slice B days.length c) v2 gb
def vSns (g : Gnd) (days : List Day) (v : Value) (W : World) : Prop := ∃ B c v1 gb base, v = .slice B days.length c ∧ tabE W base g days v1 (.slice B days.length c) gb
def vLes (g : Gnd) (days : List Day) (v : Value) (W : World) : Prop := ∃ B c B' c' gb base, v = .tuple #[.slice B days.length c, .slice B' days.length c', .int .i64 0] ∧ tabE W base g days (.slice B days.length c) (.slice B' days.length c') gb
theorem vLvs_st {g : Gnd} {days : List Day} : ∀ v W W', vLvs g days v W → newer W W' → vLvs g days v W' := fun _ _ _ ⟨B, c, v2, gb, base, h1, h2⟩ hb => ⟨B, c, v2, gb, base, h1, Tab.newer h2 hb⟩
theorem vSns_st {g : Gnd} {days : List Day} : ∀ v W W', vSns g days v W → newer W W' → vSns g days v W' := fun _ _ _ ⟨B, c, v1, gb, base, h1, h2⟩ hb => ⟨B, c, v1, gb, base, h1, Tab.newer h2 hb⟩
theorem vLes_st {g : Gnd} {days : List Day} : ∀ v W W', vLes g days v W → newer W W' → vLes g days v W' := fun _ _ _ ⟨B, c, B', c', gb, base, h1, h2⟩ hb => ⟨B, c, B', c', gb, base, h1, Tab.newer h2 hb⟩
/-- A ground, and days, made since. -/
def vGnd (g : Gnd) (v : Value) (W : World) : Prop := ∃ A cp, v = gndV A cp g ∧ Row cellL 7 W W.heap.size A g.cells
def vDays (days : List Day) (n : Nat) (v : Value) (W : World) : Prop := ∃ A cp, v = .slice A n cp ∧ Row dayL 3 W W.heap.size A days
theorem vGnd_st {g : Gnd} : ∀ v W W', vGnd g v W → newer W W' → vGnd g v W' := fun _ _ _ ⟨A, cp, h1, h2⟩ hb => ⟨A, cp, h1, (h2.below hb).more hb.size⟩
theorem vDays_st {days : List Day} {n : Nat} : ∀ v W W', vDays days n v W → newer W W' → vDays days n v W' := fun _ _ _ ⟨A, cp, h1, h2⟩ hb => ⟨A, cp, h1, (h2.below hb).more hb.size⟩
theorem levels_tab (g : Gnd) (A : Option Addr) (ap : Nat) (days : List Day) (D : Option Addr) (dp : Nat) (w : World) (hc : Row cellL 7 w w.heap.size A g.cells) (hd : Row dayL 3 w w.heap.size D days) (hf : faultN g days = 0) :
    Calls Try.prog 18 #[gndV A ap g, .slice D days.length dp] w fun e w' => (∃ v, e = .returned v ∧ vLes g days v w') ∧ Below w.heap.size w w' := by
  have h8 := (fault_cells hf).2
  have hm := (fault_zero hf).2.1
  refine (levels_ok g A ap days D dp w (by omega) (by omega) hc hd hf h8).mono ?_
  rintro e w' ⟨v1, v2, gb, base, rfl, _, ht, hb⟩
  obtain ⟨B1, c1, rfl⟩ := own_form ht.own1
  obtain ⟨B2, c2, rfl⟩ := own_form ht.own2
  exact ⟨⟨_, rfl, B1, c1, B2, c2, gb, base, rfl, ht⟩, hb⟩

theorem genIn' {P : Program} {c : Code} {Q : Exit → Act → World → Prop} {a : Act} {w : World} (F : World → Prop) (hF : F w) (h : ∀ w', F w' → Code.wp P c Q a w') : Code.wp P c Q a w := h w hF

set_option maxRecDepth 100000 in
set_option maxHeartbeats 2000000 in
theorem waterBehind_walk (g : Gnd) (A : Option Addr) (cp : Nat) (days : List Day) (D : Option Addr) (dp : Nat) (many : Int) (w : World) (m0 : 0 ≤ many) (m1 : many ≤ 255) (hdp : days.length ≤ dp) (hD0 : D = none → dp = 0) (hc : Row cellL 7 w w.heap.size A g.cells) (hd : Row dayL 3 w w.heap.size D days) :
    Calls Try.prog 5 #[gndV A cp g, .slice D days.length dp, .int .u8 many] w fun e w' => e = .returned (.bool true) ∧ Below w.heap.size w w' := by
  have HC := Lib.hid hc
  have HD := Lib.hid hd
  have HT := Lib.hid (ready_any g cp A days dp D (w.alloc (.cells (gndC A cp g) 26)) (row_alloc hc _) (row_alloc hd _))
  clear hc hd
  cases ht : readyB g days
  · rw [ht] at HT
    clear ht
    go_enter Try.func5, Try.ntmps5
    go_wp2_with fail
    refine (HT.out).mono ?_
    rintro e w1 ⟨rfl, hb1⟩
    have hB := below_step ((Below.refl w.heap.size w).alloc (Nat.le_refl _) _) hb1 (by simp)
    clear hb1 HT
    go_wp2_with fail
    refine (wakes_any _).mono ?_
    rintro e w2 ⟨rfl, hb2⟩
    have HF := Lib.hid (below_next hB hb2)
    clear hb2 hB
    go_wp2_with fail
    go_ret
    exact ⟨rfl, HF.out⟩
  · have hrd : (g.cells.length ≤ 10 ∧ days.length ≤ 35) ∧ faultN g days = 0 := by simpa [readyB, thinB] using ht
    obtain ⟨hsz, hf⟩ := hrd
    have hm30 := (fault_zero hf).2.1
    rw [ht] at HT
    have HF := Lib.hid hf
    clear ht hf
    obtain ⟨n, hnn⟩ : ∃ n : Nat, (n : Int) = many % ((days.length : Int) + 1) := ⟨(many % ((days.length : Int) + 1)).toNat, Int.toNat_of_nonneg (Int.emod_nonneg _ (by omega))⟩
    have hnm : (n : Int) < (days.length : Int) + 1 := by rw [hnn]; exact Int.emod_lt_of_pos _ (by omega)
    have HN := Lib.hid hnn
    have hlt : (days.take n).length = n := by rw [List.length_take]; omega
    have HLT := Lib.hid hlt
    clear hnn hlt
    go_enter Try.func5, Try.ntmps5
    go_wp2_with fail
    refine (HT.out).mono ?_
    rintro e w1 ⟨rfl, hb1⟩
    have hB1 := below_step ((Below.refl w.heap.size w).alloc (Nat.le_refl _) (.cells (gndC A cp g) 26)) hb1 (by simp)
    have hg1 := (Whole.made w 26 (gndC A cp g)).below hb1 (by simp)
    clear hb1 HT
    have g0 := hg1.at 0 (v := .slice A g.cells.length cp) rfl
    have g1 := hg1.at 1 (v := vi g.slo) rfl
    have g2 := hg1.at 2 (v := vi g.shi) rfl
    have g3 := hg1.at 3 (v := vi g.klo) rfl
    have g4 := hg1.at 4 (v := vi g.khi) rfl
    have g5 := hg1.at 5 (v := vi g.melt) rfl
    have HG := Lib.hid (lawGround g A cp w1 (by omega) ((HC.out.below hB1).more hB1.size))
    have H1 := Lib.hid (And.intro hB1 hg1)
    clear hB1 hg1
    go_wp2_with fail
    rw [← HN.out]
    refine (HG.out).mono ?_
    rintro e w2 ⟨A2, cq, rfl, hr2, hb2⟩
    have HDy := Lib.hid (lawDays days D dp w2 (by omega) ((HD.out.below (below_next H1.out.1 hb2)).more (below_next H1.out.1 hb2).size))
    have H2 := Lib.hid (And.intro (below_next H1.out.1 hb2) (And.intro (H1.out.2.below hb2 H1.out.2.lt) hr2))
    clear g0 g1 g2 g3 g4 g5 hr2 hb2 HG H1
    go_wp2_with fail
    refine (HDy.out).mono ?_
    rintro e w3 ⟨A3, cr, rfl, hr3, hb3⟩
    have H3 := Lib.hid (And.intro (below_next H2.out.1 hb3) (H2.out.2.1.below hb3 H2.out.2.1.lt))
    have HL := Lib.hid (levels_tab g A2 cq days A3 cr w3 ((H2.out.2.2.below hb3).more hb3.size) hr3 HF.out)
    clear hr3 hb3 H2 HDy
    go_wp2_with fail
    refine (HL.out).mono ?_
    rintro e wv ⟨⟨_, rfl, B1, k1, B2, k2, gb, base, rfl, htab⟩, hb4⟩
    have hB4 := below_next H3.out.1 hb4
    have hg4 := H3.out.2.below hb4 H3.out.2.lt
    have g0 := hg4.at 0 (v := .slice A g.cells.length cp) rfl
    have g1 := hg4.at 1 (v := vi g.slo) rfl
    have g2 := hg4.at 2 (v := vi g.shi) rfl
    have g3 := hg4.at 3 (v := vi g.klo) rfl
    have g4 := hg4.at 4 (v := vi g.khi) rfl
    have g5 := hg4.at 5 (v := vi g.melt) rfl
    have HR := Lib.hid (And.intro ((HC.out.below hB4).more hB4.size) ((HD.out.below hB4).more hB4.size))
    have HB := Lib.hid hB4
    have HTB := Lib.hid htab
    have hnd : n ≤ dp := by omega
    have hndi : (n : Int) ≤ dp := by omega
    clear hB4 hg4 hb4 htab H3 HL
    go_wp2_with fail
    refine wp_words (by kernel_rfl) (region_told 13 (by kernel_rfl) (by kernel_rfl) (fun W => Below wv.heap.size wv W) newer (pickD [vIs (gndV A cp g), vGnd g, vIs (.slice D days.length dp), vIs (.int .i64 n), vIs (.slice D n dp), vDays (days.take n) n, vLes g (days.take n), vLes g (days.take n), vLvs g (days.take n), vSns g (days.take n), vIs (.int .i64 0), vLvs g (days.take n), vSns g (days.take n)]) (fun h k => newer_trans h k) (pickD_stable _ ⟨vIs_st, vGnd_st, vIs_st, vIs_st, vIs_st, vDays_st, vLes_st, vLes_st, vLvs_st, vSns_st, vIs_st, vLvs_st, vSns_st, trivial⟩) (Below.refl _ wv).drew (Below.refl _ _) ?_ ?_)
    · refine ⟨?_, ?_, ?_, ?_, ?_, ?_, ?_, ?_, ?_, ?_, ?_, ?_, ?_, trivial⟩
      · intro a W hG hR hO hp
        have h3 := hO.slot 3 (by kernel_rfl)
        have c0 := keep_cell g0 hG
        have c1 := keep_cell g1 hG
        have c2 := keep_cell g2 hG
        have c3 := keep_cell g3 hG
        have c4 := keep_cell g4 hG
        have c5 := keep_cell g5 hG
        refine wp_yields (v := gndV A cp g) ?_ ⟨_, rfl, rfl, Below.refl _ _, hG⟩
        simp [slotOf] at h3
        simp [execOp, go_sem, h3, c0, c1, c2, c3, c4, c5]
      · intro a W hG hR hO hp
        have h37 : slotOf a 37 = gndV A cp g := hp.1
        refine wp_enters (f := 19) (args := #[gndV A cp g]) ?_ ((lawGround g A cp W (by omega) ((HR.out.1.below hG).more hG.size)).mono ?_)
        · simp [slotOf] at h37
          simp [go_sem, h37]
        · rintro e w' ⟨Ax, cx, rfl, hr, hb⟩
          exact ⟨_, rfl, _, rfl, ⟨Ax, cx, rfl, hr⟩, hb, below_next hG hb⟩
      · intro a W hG hR hO hp
        have h1 := hO.slot 1 (by kernel_rfl)
        refine wp_yields (v := .slice D days.length dp) ?_ ⟨_, rfl, rfl, Below.refl _ _, hG⟩
        simp [slotOf] at h1
        simp [execOp, go_sem, h1]
      · intro a W hG hR hO hp
        have h7 := hO.slot 7 (by kernel_rfl)
        refine wp_yields (v := .int .i64 n) ?_ ⟨_, rfl, rfl, Below.refl _ _, hG⟩
        simp [slotOf] at h7
        simp [execOp, go_sem, h7]
      · intro a W hG hR hO hp
        have h39 : slotOf a 39 = .slice D days.length dp := hp.1
        have h40 : slotOf a 40 = .int .i64 n := hp.2.1
        rcases D with _ | ad
        · have e0 : dp = 0 := hD0 rfl
          have e1 : n = 0 := by omega
          subst e0
          subst e1
          refine wp_yields (v := .slice none 0 0) ?_ ⟨_, rfl, rfl, Below.refl _ _, hG⟩
          simp [slotOf] at h39 h40
          simp [execOp, go_sem, h39, h40]
        · refine wp_yields (v := .slice (some ad) n dp) ?_ ⟨_, rfl, rfl, Below.refl _ _, hG⟩
          simp [slotOf] at h39 h40
          simp [execOp, go_sem, h39, h40, hndi]
      · intro a W hG hR hO hp
        have h41 : slotOf a 41 = .slice D n dp := hp.1
        have hdd := lawDays (days.take n) D dp W (by rw [HLT.out]; omega) (row_take ((HR.out.2.below hG).more hG.size) n)
        rw [HLT.out] at hdd
        refine wp_enters (f := 20) (args := #[.slice D n dp]) ?_ (hdd.mono ?_)
        · simp [slotOf] at h41
          simp [go_sem, h41]
        · rintro e w' ⟨Ax, cx, rfl, hr, hb⟩
          exact ⟨_, rfl, _, rfl, ⟨Ax, cx, by rw [HLT.out], hr⟩, hb, below_next hG hb⟩
      · intro a W hG hR hO hp
        have h38 := hp.1
        have h42 := hp.2.1
        obtain ⟨Ax, cx, h38, hrx⟩ := h38
        obtain ⟨Ay, cy, h42, hry⟩ := h42
        have hll := levels_tab g Ax cx (days.take n) Ay cy W hrx hry (fault_take HF.out n)
        rw [HLT.out] at hll
        refine wp_enters (f := 18) (args := #[gndV Ax cx g, .slice Ay n cy]) ?_ (hll.mono ?_)
        · simp [slotOf] at h38 h42
          simp [go_sem, h38, h42]
        · rintro e w' ⟨⟨v, rfl, hv⟩, hb⟩
          exact ⟨_, rfl, _, rfl, hv, hb, below_next hG hb⟩
      · intro a W hG hR hO hp
        have h43 := hp.1
        obtain ⟨Bx, cx, By, cy, gx, bx, h43, htx⟩ := h43
        refine wp_yields (v := .tuple #[.slice Bx (days.take n).length cx, .slice By (days.take n).length cy, .int .i64 0]) ?_ ⟨_, rfl, ⟨Bx, cx, By, cy, gx, bx, rfl, htx⟩, Below.refl _ _, hG⟩
        simp [slotOf] at h43
        simp [execOp, go_sem, h43]
      · intro a W hG hR hO hp
        have h36 := hp.1
        obtain ⟨Bx, cx, By, cy, gx, bx, h36, htx⟩ := h36
        refine wp_yields (v := .slice Bx (days.take n).length cx) ?_ ⟨_, rfl, ⟨Bx, cx, _, gx, bx, rfl, htx⟩, Below.refl _ _, hG⟩
        simp [slotOf] at h36
        simp [execOp, go_sem, h36]
      · intro a W hG hR hO hp
        have h36 := hp.1
        obtain ⟨Bx, cx, By, cy, gx, bx, h36, htx⟩ := h36
        refine wp_yields (v := .slice By (days.take n).length cy) ?_ ⟨_, rfl, ⟨By, cy, _, gx, bx, rfl, htx⟩, Below.refl _ _, hG⟩
        simp [slotOf] at h36
        simp [execOp, go_sem, h36]
      · intro a W hG hR hO hp
        have h36 := hp.1
        obtain ⟨Bx, cx, By, cy, gx, bx, h36, htx⟩ := h36
        refine wp_yields (v := .int .i64 0) ?_ ⟨_, rfl, rfl, Below.refl _ _, hG⟩
        simp [slotOf] at h36
        simp [execOp, go_sem, h36]
      · intro a W hG hR hO hp
        have h44 := hp.1
        obtain ⟨Bx, cx, By, gx, bx, h44, htx⟩ := h44
        refine wp_yields (v := .slice Bx (days.take n).length cx) ?_ ⟨_, rfl, ⟨Bx, cx, _, gx, bx, rfl, htx⟩, Below.refl _ _, hG⟩
        simp [slotOf] at h44
        simp [execOp, go_sem, h44]
      · intro a W hG hR hO hp
        have h45 := hp.1
        obtain ⟨Bx, cx, By, gx, bx, h45, htx⟩ := h45
        refine wp_yields (v := .slice Bx (days.take n).length cx) ?_ ⟨_, rfl, ⟨Bx, cx, _, gx, bx, rfl, htx⟩, Below.refl _ _, hG⟩
        simp [slotOf] at h45
        simp [execOp, go_sem, h45]
    · intro W hG hR
      rintro _ rfl _ ⟨_, _, rfl, _⟩ _ rfl _ rfl _ rfl _ ⟨_, _, rfl, _⟩ _ ⟨_, _, _, _, _, _, rfl, _⟩ _ ⟨_, _, _, _, _, _, rfl, _⟩ _ ⟨_, _, _, _, _, rfl, _⟩ _ ⟨_, _, _, _, _, rfl, _⟩ _ rfl _ ⟨E1, f1, y2, gb1, base1, rfl, htb1⟩ _ ⟨E2, f2, y1, gb2, base2, rfl, htb2⟩
      change wpList _ _ _ _ _ _
      simp only [Act.put, List.setIfInBounds_toArray, List.set_cons_zero, List.set_cons_succ, List.drop_succ_cons, List.drop_zero]
      have HX := Lib.hid (And.intro (below_next HB.out hG) (Tab.newer HTB.out hG))
      have HY := Lib.hid (And.intro htb1 htb2)
      clear hG hR HR HB HTB htb1 htb2 g0 g1 g2 g3 g4 g5
      have ha1 : (days.take n).length = n := HLT.out
      rw [ha1]
      clear ha1
      go_wp2_with fail
      have hnm2 : n ≤ days.length := by omega
      go_loopw [14] (fun s14 wr => ∃ k : Nat, k ≤ n ∧ s14 = .int .i64 k ∧ newer W wr) (fun s14 _ => n - (intOf s14).toNat)
      case atStart => exact ⟨0, Nat.zero_le _, rfl, Below.refl _ _⟩
      case round =>
        obtain ⟨k, hk, rfl, hnw⟩ := hrel
        by_cases hkn : k < n
        · have ha1 : (days.take n).length = n := HLT.out
          have hT1 := Tab.newer HX.out.2 hnw
          have hT2 := Tab.newer HY.out.1 hnw
          have hT3 := Tab.newer HY.out.2 hnw
          obtain ⟨q1, p1, e1⟩ := hT1.form1 (by omega)
          obtain ⟨q2, p2, e2⟩ := hT1.form2 (by omega)
          obtain ⟨q3, p3, e3⟩ := hT2.form1 (by omega)
          obtain ⟨q4, p4, e4⟩ := hT3.form2 (by omega)
          injection e1 with e1 _ e1'
          injection e2 with e2 _ e2'
          injection e3 with e3 _ e3'
          injection e4 with e4 _ e4'
          subst e1
          subst e1'
          subst e2
          subst e2'
          subst e3
          subst e3'
          subst e4
          subst e4'
          have z1 := hT1.at1 (show k < days.length by omega)
          obtain ⟨y0, y1'⟩ := hT1.at2 (show k < days.length by omega)
          have z2 := hT2.at1 (show k < (days.take n).length by omega)
          obtain ⟨x0, x1⟩ := hT3.at2 (show k < (days.take n).length by omega)
          rw [stE_take _ _ _ _ _ (by omega)] at x0 x1
          have hki : (k : Int) < days.length := by omega
          have hkj : (k : Int) < n := by omega
          have HNW := Lib.hid hnw
          clear ha1 hT1 hT2 hT3 hnw
          go_wp2_with fail
          go_quiet (fail)
          go_wp2_with fail
          refine genIn' (fun Z => newer W Z) (newer_trans HNW.out (newer_drewN _ _)) ?_
          clear HNW z1 y0 y1' z2 x0 x1
          intro wz hnz
          go_loopw [15] (fun s15 wi => ∃ i : Nat, i ≤ g.cells.length ∧ s15 = .int .i64 i ∧ newer wz wi) (fun s15 _ => g.cells.length - (intOf s15).toNat)
          case atStart => exact ⟨0, Nat.zero_le _, rfl, Below.refl _ _⟩
          case round =>
            obtain ⟨i, hi, rfl, hni⟩ := hrel
            have ha1 : (days.take n).length = n := HLT.out
            have hT1 := Tab.newer HX.out.2 (newer_trans hnz hni)
            have hT2 := Tab.newer HY.out.1 (newer_trans hnz hni)
            have z1 := hT1.at1 (show k < days.length by omega)
            by_cases hil : i < g.cells.length
            · have z2 := hT2.at1 (show k < (days.take n).length by omega)
              obtain ⟨y0, y1'⟩ := row_cell (hT1.rows k (by omega)) hil
              obtain ⟨x0, x1⟩ := row_cell (hT2.rows k (by omega)) hil
              rw [stE_take _ _ _ _ _ (by omega)] at x0 x1
              have him : (i : Int) < g.cells.length := by omega
              have HNI := Lib.hid hni
              clear ha1 hT1 hT2 hni
              go_wp2_with fail
              go_quiet (fail)
              go_wp2_with fail
              go_roundw
              case rel => exact ⟨i + 1, by omega, by go_num, newer_trans HNI.out (newer_drewN _ _)⟩
              case measure => simp [intOf]; omega
            · have HNI := Lib.hid (newer_trans hnz hni)
              clear hni ha1 hT1 hT2
              go_wp2_with fail
              exact ⟨⟨k + 1, by omega, by push_cast; rfl, HNI.out⟩, by (simp only [intOf]; omega)⟩
        · have HNW := Lib.hid hnw
          clear hnw
          go_wp2_with fail
          refine (wakes_any _).mono ?_
          rintro e w6 ⟨rfl, hb6⟩
          have HZ := Lib.hid (below_next (below_next HX.out.1 HNW.out) hb6)
          clear hb6
          go_wp2_with fail
          go_ret
          exact ⟨rfl, HZ.out⟩

set_option maxRecDepth 100000 in
theorem waterBehind_lifted (os : Os) (started : os.Started) (H : Type) (enc : TypeId × Value → H) :
    ReturnsInHanded {} Try.checked os 5 .any (Rows.waterBehindSpec.pre6 enc Try.prog Try.f5 Rows.waterBehindRow.domain false) (Rows.waterBehindSpec.post enc Try.prog Try.f5 false true false false) := by
  refine returnsInHanded_of_change (C := Try.checked) Try.own started (by kernel_rfl) Try.func5
    (ChangeSpec.witness6 (enc := enc) (C := Try.checked) false ⟨#[], #[.agg #[.slice none 0 0, .int .i64 0, .int .i64 0, .int .i64 0, .int .i64 0, .int .i64 0], .slice none 0 0, .int .u8 0], []⟩ 8 (by kernel_rfl) (by kernel_rfl) (by kernel_rfl) (by kernel_rfl)) ?_
  intro W base args ds gs before hval0 hW hcnd _
  have hval : ∀ (j : Nat) t v, Try.f5.params[j]? = some t → args[j]? = some v → Value.okWide Try.prog W .any base t v := hval0
  have hW' := hW
  obtain ⟨p, q, hA0, hV, rfl, hfz, hnd⟩ := hW
  have hA : DataW.TrodAll enc Try.prog W 0 (fun _ => true) true Try.f5.params.toList args.toList ds p := hA0
  rw [Try.params5] at hA hval
  obtain ⟨v0, vs0, d0, ds0, p0, q0, hargs, rfl, rfl, h0, r0⟩ := trodAll_cons hA
  obtain ⟨v1, vs1, d1, ds1, p1, q1, rfl, rfl, rfl, h1, r1⟩ := trodAll_cons r0
  obtain ⟨v2, vs2, d2, ds2, p2, q2, rfl, rfl, rfl, h2, r2⟩ := trodAll_cons r1
  obtain ⟨rfl, rfl, rfl⟩ := trodAll_nil r2
  obtain rfl : args = #[v0, v1, v2] := by cases args; simp_all
  obtain ⟨rfl, rfl⟩ := trodVars_none hV
  obtain ⟨c0, rfl, hs0⟩ := okWide_struct Try.underlying26 (hval 0 26 v0 rfl rfl)
  have k0 := h0
  have lt0 : ∀ x ∈ p0, x.block < W.heap.size := by obtain ⟨m, hm⟩ := k0; exact DataW.trod_lt m _ _ _ hm
  obtain ⟨g0, A0, cp0, e0, hl0, hrow0⟩ : ∃ (g : Gnd) (A : Option Addr) (cp : Nat), c0.toList = [.slice A g.cells.length cp, vi g.slo, vi g.shi, vi g.klo, vi g.khi, vi g.melt] ∧ g.cells.length ≤ maxLen ∧ Row cellL 7 W W.heap.size A g.cells := by
    obtain ⟨fuel, hf⟩ := h0
    exact ground_open hf
  obtain rfl : c0 = gndC A0 cp0 g0 := by cases c0; simp_all
  obtain ⟨a1, len1, cap1, rfl⟩ := okWide_slice Try.underlying27 (hval 1 27 v1 rfl rfl)
  have k1 := h1
  have lt1 : ∀ x ∈ p1, x.block < W.heap.size := by obtain ⟨m, hm⟩ := k1; exact DataW.trod_lt m _ _ _ hm
  obtain ⟨D1, l1, dp1, e1, hl1, hrow1⟩ : ∃ (D : Option Addr) (l : List Day) (dp : Nat), (Value.slice a1 len1 cap1).cells.toList = [.slice D l.length dp] ∧ l.length ≤ maxLen ∧ Row dayL 3 W W.heap.size D l := by
    obtain ⟨fuel, hf⟩ := h1
    exact days_open hf
  simp [Value.cells] at e1
  obtain ⟨rfl, rfl, rfl⟩ := e1
  obtain ⟨a2, rfl, rfl, rfl, w2⟩ := open_int Try.underlying5 (hval 2 5 v2 rfl rfl) h2
  have hb2 := bounds_u8 w2
  have hcap : l1.length ≤ cap1 ∧ (a1 = none → cap1 = 0) := by obtain ⟨fuel, hf⟩ := k1; exact days_cap hf
  clear hA0 hval0
  refine (waterBehind_walk g0 A0 cp0 l1 a1 cap1 a2 W hb2.1 hb2.2 hcap.1 hcap.2 hrow0 hrow1).mono fun e W' ⟨he, bel⟩ => ?_
  subst he
  exact ⟨_, rfl, _, _, _, [], _, [], hW', trodAll_mk1 (shut_bool Try.underlying4 _), (trodAll_cons_mk (Below.trod Try.laidOut (by kernel_rfl) (of_decide_eq_true (by kernel_rfl)) k0 bel lt0) (trodAll_cons_mk (Below.trod Try.laidOut (by kernel_rfl) (of_decide_eq_true (by kernel_rfl)) k1 bel lt1) (trodAll_cons_mk (shut_int Try.underlying5 w2) trodAll_mk0))), rfl, bel.frame _, fun h => by cases h⟩

theorem waterBehind_holds : Rows.WaterBehindSaid :=
  OpenClaim.holds_of_wide 5 Try.f5 rfl rfl rfl rfl rfl rfl rfl ⟨rfl, rfl, rfl, rfl, rfl⟩ rfl rfl rfl rfl rfl (by kernel_rfl) Try.func5 (by kernel_rfl)
    (of_decide_eq_true (by kernel_rfl)) (by unfold Func.isWrapper; first | (rw [if_pos (by decide +kernel)]; kernel_rfl) | (rw [if_neg (by decide +kernel)]; exact ⟨rfl, rfl⟩))
    (fun os started H enc _ => waterBehind_lifted os started H enc)
#print axioms waterBehind_holds
end Go.Proofs.Yteonkhohloabfaa
