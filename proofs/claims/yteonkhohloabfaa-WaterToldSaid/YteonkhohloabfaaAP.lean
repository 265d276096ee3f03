/- Does a truth have a number of each range? The program's has and the reference's Fits answer alike. -/
import Derived.Test.YteonkhohloabfaaAF
namespace Go.Proofs.Yteonkhohloabfaa
open Go.RowKit

def goodB (n : Nat) (p : Nat → Bool) : Bool := (List.range n).all p
theorem goodB_true {n : Nat} {p : Nat → Bool} (h : ∀ j, j < n → p j = true) : goodB n p = true := by
  unfold goodB
  rw [List.all_eq_true]
  exact fun x hx => h x (List.mem_range.1 hx)
theorem goodB_false {n j : Nat} {p : Nat → Bool} (hj : j < n) (h : p j = false) : goodB n p = false := by
  unfold goodB
  rw [List.all_eq_false]
  exact ⟨j, List.mem_range.2 hj, by simp [h]⟩
/-- All up to k. -/
def goodTo (p : Nat → Bool) (k : Nat) : Prop := ∀ j, j < k → p j = true
theorem goodTo_zero (p : Nat → Bool) : goodTo p 0 := fun _ h => by omega
theorem goodTo_succ {p : Nat → Bool} {k : Nat} (h : goodTo p k) (hk : p k = true) : goodTo p (k + 1) := fun j hj => by
  rcases Nat.lt_or_ge j k with h1 | h1
  · exact h j h1
  · obtain rfl : j = k := by omega
    exact hk
def lvB (g : Gnd) (lv : List Int) (j : Nat) : Bool := inB (iAt lv j) (cAt g.cells j).lo (cAt g.cells j).hi
def rnB (days : List Day) (rn : List Int) (j : Nat) : Bool := inB (iAt rn j) (dAt days j).lo (dAt days j).hi
/-- Has a truth just one number of each range? -/
def fitsB (g : Gnd) (days : List Day) (snow soak : Int) (lv rn : List Int) : Bool :=
  decide (lv.length = g.cells.length) && decide (rn.length = days.length) && inB snow g.slo g.shi && inB soak g.klo g.khi && goodB g.cells.length (lvB g lv) && goodB days.length (rnB days rn)

theorem genIn2 {P : Program} {c : Code} {Q : Exit → Act → World → Prop} {a : Act} {w : World} (F : World → Prop) (hF : F w) (h : ∀ w', F w' → Code.wp P c Q a w') : Code.wp P c Q a w := h w hF

set_option maxRecDepth 100000 in
set_option maxHeartbeats 2000000 in
theorem has_any67 (g : Gnd) (A : Option Addr) (cp : Nat) (days : List Day) (D : Option Addr) (dp : Nat) (snow soak : Int) (lv : List Int) (L : Option Addr) (lp : Nat) (rn : List Int) (R : Option Addr) (rp : Nat) (w : World) (hn : g.cells.length ≤ 1000) (hm : days.length ≤ 1000) (_ : lv.length ≤ 1000) (_ : rn.length ≤ 1000)
    (hc : Row cellL 7 w w.heap.size A g.cells) (hd : Row dayL 3 w w.heap.size D days) (hL : Row intL 1 w w.heap.size L lv) (hR : Row intL 1 w w.heap.size R rn) :
    Calls Try.prog 67 #[gndV A cp g, .slice D days.length dp, truthV snow soak L lv.length lp R rn.length rp] w fun e w' => e = .returned (.bool (fitsB g days snow soak lv rn)) ∧ Below w.heap.size w w' := by
  have HC := Lib.hid hc
  have HD := Lib.hid hd
  have HL := Lib.hid hL
  have HR := Lib.hid hR
  clear hc hd hL hR
  unfold fitsB
  by_cases hlen : lv.length = g.cells.length
  case neg =>
    have hb0 : (lv.length == g.cells.length) = false := by simpa using hlen
    have hb1 : (lv.length != g.cells.length) = true := by simpa using hlen
    have hb2 : ((lv.length : Int) == (g.cells.length : Int)) = false := by simp; omega
    have hb3 : ((lv.length : Int) != (g.cells.length : Int)) = true := by simp; omega
    rw [decide_eq_false hlen]
    clear hlen
    go_enter Try.func67, Try.ntmps67
    go_wp2_with fail
    go_ret
    exact ⟨rfl, ((Below.refl _ _).alloc (Nat.le_refl _) _).alloc (by simp) _⟩
  case pos =>
  by_cases hlen2 : rn.length = days.length
  case neg =>
    have hb0 : (rn.length == days.length) = false := by simpa using hlen2
    have hb1 : (rn.length != days.length) = true := by simpa using hlen2
    have hb2 : ((rn.length : Int) == (days.length : Int)) = false := by simp; omega
    have hb3 : ((rn.length : Int) != (days.length : Int)) = true := by simp; omega
    rw [decide_eq_true hlen, decide_eq_false hlen2, hlen]
    clear hlen hlen2
    go_enter Try.func67, Try.ntmps67
    go_wp2_with fail
    go_ret
    exact ⟨rfl, ((Below.refl _ _).alloc (Nat.le_refl _) _).alloc (by simp) _⟩
  case pos =>
  rw [decide_eq_true hlen, decide_eq_true hlen2, hlen, hlen2]
  have HLE := Lib.hid (And.intro hlen hlen2)
  clear hlen hlen2
  obtain ⟨t1, ht1⟩ : ∃ t, t = goodB g.cells.length (lvB g lv) := ⟨_, rfl⟩
  obtain ⟨t2, ht2⟩ : ∃ t, t = goodB days.length (rnB days rn) := ⟨_, rfl⟩
  rw [← ht1, ← ht2]
  have HT1 := Lib.hid ht1
  have HT2 := Lib.hid ht2
  clear ht1 ht2
  simp only [Bool.true_and]
  cases q1 : inB snow g.slo g.shi
  case' true => cases q2 : inB soak g.klo g.khi
  case true.true =>
    simp only [Bool.true_and]
    go_enter Try.func67, Try.ntmps67
    go_wp2_with fail
    have hbx : Below w.heap.size w ((w.alloc (.cells (gndC A cp g) 38)).alloc (.cells #[vi snow, vi soak, .slice L g.cells.length lp, .slice R days.length rp] 63)) ∧ Whole ((w.alloc (.cells (gndC A cp g) 38)).alloc (.cells #[vi snow, vi soak, .slice L g.cells.length lp, .slice R days.length rp] 63)) w.heap.size 38 (gndC A cp g) ∧ Whole ((w.alloc (.cells (gndC A cp g) 38)).alloc (.cells #[vi snow, vi soak, .slice L g.cells.length lp, .slice R days.length rp] 63)) (w.heap.size + 1) 63 #[vi snow, vi soak, .slice L g.cells.length lp, .slice R days.length rp] := by
      refine ⟨((Below.refl _ _).alloc (Nat.le_refl _) _).alloc (by simp) _, (Whole.made w 38 _).alloc _, ?_⟩
      have := Whole.made (w.alloc (.cells (gndC A cp g) 38)) 63 #[vi snow, vi soak, .slice L g.cells.length lp, .slice R days.length rp]
      rw [World.size_alloc] at this
      exact this
    have HB := Lib.hid hbx
    clear hbx
    refine (has_any _ _ _ _).mono ?_
    rintro e w' ⟨rfl, rfl⟩
    rw [q1]
    go_wp2_with fail
    refine (has_any _ _ _ _).mono ?_
    rintro e w' ⟨rfl, rfl⟩
    rw [q2]
    go_wp2_with fail
    have hst : ∀ W W', (Below w.heap.size w W ∧ Whole W w.heap.size 38 (gndC A cp g) ∧ Whole W (w.heap.size + 1) 63 #[vi snow, vi soak, .slice L g.cells.length lp, .slice R days.length rp]) → newer W W' → (Below w.heap.size w W' ∧ Whole W' w.heap.size 38 (gndC A cp g) ∧ Whole W' (w.heap.size + 1) 63 #[vi snow, vi soak, .slice L g.cells.length lp, .slice R days.length rp]) := fun W W' h hb => ⟨below_next h.1 hb, h.2.1.below hb h.2.1.lt, h.2.2.below hb h.2.2.lt⟩
    have HS := Lib.hid hst
    clear hst
    have H0 := Lib.hid (HS.out _ _ HB.out (((Below.refl _ _).alloc (Nat.le_refl _) (.cells #[vi g.slo, vi g.shi] 36)).alloc (by simp) (.cells #[vi g.klo, vi g.khi] 36)))
    go_loopw [45] (fun s45 wr => ∃ k : Nat, k ≤ g.cells.length ∧ s45 = .int .i64 k ∧ (Below w.heap.size w wr ∧ Whole wr w.heap.size 38 (gndC A cp g) ∧ Whole wr (w.heap.size + 1) 63 #[vi snow, vi soak, .slice L g.cells.length lp, .slice R days.length rp]) ∧ goodTo (lvB g lv) k) (fun s45 _ => g.cells.length - (intOf s45).toNat)
    case atStart => exact ⟨0, Nat.zero_le _, rfl, H0.out, goodTo_zero _⟩
    case round =>
      obtain ⟨k, hk, rfl, hx, hgt⟩ := hrel
      clear H0 HB
      have HG := Lib.hid hgt
      clear hgt
      by_cases hlt : k < g.cells.length
      · obtain ⟨c, hck⟩ := get_of_lt hlt
        obtain ⟨b, off, rfl, hb, h0, h1, h2, h3, h4, h5, h6⟩ := row7 (HC.out.below hx.1) hck
        obtain ⟨y, hy⟩ := get_of_lt (l := lv) (k := k) (by have := HLE.out.1; omega)
        obtain ⟨lb, lo, rfl, hlb, hly⟩ := row1 (HL.out.below hx.1) hy
        have hkn : (k : Int) < g.cells.length := by omega
        have HV := Lib.hid (show lvB g lv k = inB y c.lo c.hi by unfold lvB; rw [iAt_of hy, cAt_of hck])
        have HXX := Lib.hid (HS.out _ _ hx ((Below.refl _ _).alloc (Nat.le_refl _) (.cells (cellC c) 99)))
        have HY := Lib.hid (keep_cell hly ((Below.refl _ _).alloc (Nat.le_refl _) (.cells (cellC c) 99)))
        have hcw := Whole.made wr 99 (cellC c)
        obtain ⟨cb, hcb⟩ : ∃ cb, cb = wr.heap.size := ⟨_, rfl⟩
        clear hx hck hy hly
        go_upto_region 6 with fail
        rw [← hcb] at hcw ⊢
        refine genIn2 (fun W => ((Below w.heap.size w W ∧ Whole W w.heap.size 38 (gndC (some ⟨b, off, none⟩) cp g) ∧ Whole W (w.heap.size + 1) 63 #[vi snow, vi soak, .slice (some ⟨lb, lo, none⟩) g.cells.length lp, .slice R days.length rp]) ∧ Whole W cb 99 (cellC c)) ∧ W.cell? ⟨lb, lo + k, none⟩ = some (vi y)) ⟨⟨HXX.out, hcw⟩, HY.out⟩ ?_
        clear HXX HY hcw hcb h0 h1 h2 h3 h4 h5 h6
        rintro wv ⟨⟨hx, hcw⟩, hly⟩
        have c0' := hcw.at 0 rfl
        have c1' := hcw.at 1 rfl
        have t2' := hx.2.2.at 2 rfl
        have HX := Lib.hid hx
        clear hx hcw
        obtain ⟨bb, hbb⟩ : ∃ bb, bb = inB y c.lo c.hi := ⟨_, rfl⟩
        have HBB := Lib.hid hbb
        clear hbb
        refine wp_words (by kernel_rfl) (region_told 8 (by kernel_rfl) (by kernel_rfl) (fun W => Below wv.heap.size wv W) newer (pickD [vIs (.pointer (some ⟨cb, 0, none⟩)), vIs (.agg #[vi c.lo, vi c.hi]), vIs (.pointer (some ⟨w.heap.size + 1, 2, none⟩)), vIs (.slice (some ⟨lb, lo, none⟩) g.cells.length lp), vIs (.int .i64 k), vIs (.pointer (some ⟨lb, lo + k, none⟩)), vIs (vi y), vIs (.bool bb)]) (fun h k => newer_trans h k) (pickD_stable _ ⟨vIs_st, vIs_st, vIs_st, vIs_st, vIs_st, vIs_st, vIs_st, vIs_st, trivial⟩) (Below.refl _ wv).drew (Below.refl _ _) ?_ ?_)
        · refine ⟨?_, ?_, ?_, ?_, ?_, ?_, ?_, ?_, trivial⟩
          · intro a W hG hR hO hp
            have h8 := hO.slot 8 (by kernel_rfl)
            refine wp_yields (v := .pointer (some ⟨cb, 0, none⟩)) ?_ ⟨_, rfl, rfl, Below.refl _ _, hG⟩
            simp [slotOf] at h8
            simp [execOp, go_sem, h8]
          · intro a W hG hR hO hp
            have h50 : slotOf a 50 = .pointer (some ⟨cb, 0, none⟩) := hp.1
            have c0 := keep_cell c0' hG
            have c1 := keep_cell c1' hG
            refine wp_yields (v := .agg #[vi c.lo, vi c.hi]) ?_ ⟨_, rfl, rfl, Below.refl _ _, hG⟩
            simp [slotOf] at h50
            simp [execOp, go_sem, h50, c0, c1]
          · intro a W hG hR hO hp
            have h5 := hO.slot 5 (by kernel_rfl)
            refine wp_yields (v := .pointer (some ⟨w.heap.size + 1, 2, none⟩)) ?_ ⟨_, rfl, rfl, Below.refl _ _, hG⟩
            simp [slotOf] at h5
            simp [execOp, go_sem, h5]
          · intro a W hG hR hO hp
            have h52 : slotOf a 52 = .pointer (some ⟨w.heap.size + 1, 2, none⟩) := hp.1
            have c0 := keep_cell t2' hG
            refine wp_yields (v := .slice (some ⟨lb, lo, none⟩) g.cells.length lp) ?_ ⟨_, rfl, rfl, Below.refl _ _, hG⟩
            simp [slotOf] at h52
            simp [execOp, go_sem, h52, c0]
          · intro a W hG hR hO hp
            have h7 := hO.slot 7 (by kernel_rfl)
            refine wp_yields (v := .int .i64 k) ?_ ⟨_, rfl, rfl, Below.refl _ _, hG⟩
            simp [slotOf] at h7
            simp [execOp, go_sem, h7]
          · intro a W hG hR hO hp
            have h53 : slotOf a 53 = .slice (some ⟨lb, lo, none⟩) g.cells.length lp := hp.1
            have h54 : slotOf a 54 = .int .i64 k := hp.2.1
            refine wp_yields (v := .pointer (some ⟨lb, lo + k, none⟩)) ?_ ⟨_, rfl, rfl, Below.refl _ _, hG⟩
            simp [slotOf] at h53 h54
            simp [execOp, go_sem, h53, h54, hkn]
          · intro a W hG hR hO hp
            have h55 : slotOf a 55 = .pointer (some ⟨lb, lo + k, none⟩) := hp.1
            have c0 := keep_cell hly hG
            refine wp_yields (v := vi y) ?_ ⟨_, rfl, rfl, Below.refl _ _, hG⟩
            simp [slotOf] at h55
            simp [execOp, go_sem, h55, c0]
          · intro a W hG hR hO hp
            have h51 : slotOf a 51 = .agg #[vi c.lo, vi c.hi] := hp.1
            have h56 : slotOf a 56 = vi y := hp.2.1
            refine wp_enters (f := 91) (args := #[.agg #[vi c.lo, vi c.hi], .int .i64 y]) ?_ ((has_any c.lo c.hi y W).mono ?_)
            · simp [slotOf] at h51 h56
              simp [go_sem, h51, h56]
            · rintro e w' ⟨rfl, rfl⟩
              exact ⟨_, rfl, _, rfl, congrArg Value.bool HBB.out.symm, (Below.refl _ _).alloc (Nat.le_refl _) _, hG.alloc hG.size _⟩
        · intro W hG hR
          rintro _ rfl _ rfl _ rfl _ rfl _ rfl _ rfl _ rfl _ rfl
          change wpList _ _ _ _ _ _
          simp only [Act.put, List.setIfInBounds_toArray, List.set_cons_zero, List.set_cons_succ, List.drop_succ_cons, List.drop_zero]
          have HZ := Lib.hid (HS.out _ _ HX.out hG)
          clear hG hR c0' c1' t2' hly HX
          cases bb
          · have HF := Lib.hid (show t1 = false by rw [HT1.out]; exact goodB_false hlt (by rw [HV.out]; exact HBB.out.symm))
            go_wp2_with fail
            go_ret
            exact ⟨by rw [HF.out]; rfl, HZ.out.1⟩
          · have HF := Lib.hid (goodTo_succ HG.out (show lvB g lv k = true by rw [HV.out]; exact HBB.out.symm))
            go_wp2_with fail
            first
              | (go_roundw; (case rel => exact ⟨k + 1, by omega, by go_num, HZ.out, HF.out⟩); (case measure => simp [intOf]; omega))
              | exact ⟨⟨k + 1, by omega, by push_cast; rfl, HZ.out, HF.out⟩, by (simp only [intOf]; omega)⟩
      · have hkn : k = g.cells.length := by omega
        subst hkn
        have HF1 := Lib.hid (show t1 = true by rw [HT1.out]; exact goodB_true HG.out)
        have HX0 := Lib.hid hx
        clear hx
        go_wp2_with fail
        go_loopw [62] (fun s62 wr => ∃ k : Nat, k ≤ days.length ∧ s62 = .int .i64 k ∧ (Below w.heap.size w wr ∧ Whole wr w.heap.size 38 (gndC A cp g) ∧ Whole wr (w.heap.size + 1) 63 #[vi snow, vi soak, .slice L g.cells.length lp, .slice R days.length rp]) ∧ goodTo (rnB days rn) k) (fun s62 _ => days.length - (intOf s62).toNat)
        case atStart => exact ⟨0, Nat.zero_le _, rfl, HX0.out, goodTo_zero _⟩
        case round =>
          obtain ⟨k, hk, rfl, hx, hgt⟩ := hrel
          clear HX0
          have HG2 := Lib.hid hgt
          clear hgt
          by_cases hlt : k < days.length
          · obtain ⟨d, hdk⟩ := get_of_lt hlt
            obtain ⟨b, off, rfl, hb, h0, h1, h2⟩ := row3 (HD.out.below hx.1) hdk
            obtain ⟨y, hy⟩ := get_of_lt (l := rn) (k := k) (by have := HLE.out.2; omega)
            obtain ⟨lb, lo, rfl, hlb, hly⟩ := row1 (HR.out.below hx.1) hy
            have hkn : (k : Int) < days.length := by omega
            have HV := Lib.hid (show rnB days rn k = inB y d.lo d.hi by unfold rnB; rw [iAt_of hy, dAt_of hdk])
            have HXX := Lib.hid (HS.out _ _ hx ((Below.refl _ _).alloc (Nat.le_refl _) (.cells #[vi d.lo, vi d.hi, vi d.warm] 101)))
            have HY := Lib.hid (keep_cell hly ((Below.refl _ _).alloc (Nat.le_refl _) (.cells #[vi d.lo, vi d.hi, vi d.warm] 101)))
            have hcw := Whole.made wr 101 #[vi d.lo, vi d.hi, vi d.warm]
            obtain ⟨cb, hcb⟩ : ∃ cb, cb = wr.heap.size := ⟨_, rfl⟩
            clear hx hdk hy hly
            go_upto_region 12 with fail
            rw [← hcb] at hcw ⊢
            refine genIn2 (fun W => ((Below w.heap.size w W ∧ Whole W w.heap.size 38 (gndC A cp g) ∧ Whole W (w.heap.size + 1) 63 #[vi snow, vi soak, .slice L g.cells.length lp, .slice (some ⟨lb, lo, none⟩) days.length rp]) ∧ Whole W cb 101 #[vi d.lo, vi d.hi, vi d.warm]) ∧ W.cell? ⟨lb, lo + k, none⟩ = some (vi y)) ⟨⟨HXX.out, hcw⟩, HY.out⟩ ?_
            clear HXX HY hcw hcb h0 h1 h2
            rintro wv ⟨⟨hx, hcw⟩, hly⟩
            have c0' := hcw.at 0 rfl
            have c1' := hcw.at 1 rfl
            have t2' := hx.2.2.at 3 rfl
            have HX := Lib.hid hx
            clear hx hcw
            obtain ⟨bb, hbb⟩ : ∃ bb, bb = inB y d.lo d.hi := ⟨_, rfl⟩
            have HBB := Lib.hid hbb
            clear hbb
            refine wp_words (by kernel_rfl) (region_told 8 (by kernel_rfl) (by kernel_rfl) (fun W => Below wv.heap.size wv W) newer (pickD [vIs (.pointer (some ⟨cb, 0, none⟩)), vIs (.agg #[vi d.lo, vi d.hi]), vIs (.pointer (some ⟨w.heap.size + 1, 3, none⟩)), vIs (.slice (some ⟨lb, lo, none⟩) days.length rp), vIs (.int .i64 k), vIs (.pointer (some ⟨lb, lo + k, none⟩)), vIs (vi y), vIs (.bool bb)]) (fun h k => newer_trans h k) (pickD_stable _ ⟨vIs_st, vIs_st, vIs_st, vIs_st, vIs_st, vIs_st, vIs_st, vIs_st, trivial⟩) (Below.refl _ wv).drew (Below.refl _ _) ?_ ?_)
            · refine ⟨?_, ?_, ?_, ?_, ?_, ?_, ?_, ?_, trivial⟩
              · intro a W hG hR hO hp
                have h10 := hO.slot 10 (by kernel_rfl)
                refine wp_yields (v := .pointer (some ⟨cb, 0, none⟩)) ?_ ⟨_, rfl, rfl, Below.refl _ _, hG⟩
                simp [slotOf] at h10
                simp [execOp, go_sem, h10]
              · intro a W hG hR hO hp
                have h67 : slotOf a 67 = .pointer (some ⟨cb, 0, none⟩) := hp.1
                have c0 := keep_cell c0' hG
                have c1 := keep_cell c1' hG
                refine wp_yields (v := .agg #[vi d.lo, vi d.hi]) ?_ ⟨_, rfl, rfl, Below.refl _ _, hG⟩
                simp [slotOf] at h67
                simp [execOp, go_sem, h67, c0, c1]
              · intro a W hG hR hO hp
                have h5 := hO.slot 5 (by kernel_rfl)
                refine wp_yields (v := .pointer (some ⟨w.heap.size + 1, 3, none⟩)) ?_ ⟨_, rfl, rfl, Below.refl _ _, hG⟩
                simp [slotOf] at h5
                simp [execOp, go_sem, h5]
              · intro a W hG hR hO hp
                have h69 : slotOf a 69 = .pointer (some ⟨w.heap.size + 1, 3, none⟩) := hp.1
                have c0 := keep_cell t2' hG
                refine wp_yields (v := .slice (some ⟨lb, lo, none⟩) days.length rp) ?_ ⟨_, rfl, rfl, Below.refl _ _, hG⟩
                simp [slotOf] at h69
                simp [execOp, go_sem, h69, c0]
              · intro a W hG hR hO hp
                have h9 := hO.slot 9 (by kernel_rfl)
                refine wp_yields (v := .int .i64 k) ?_ ⟨_, rfl, rfl, Below.refl _ _, hG⟩
                simp [slotOf] at h9
                simp [execOp, go_sem, h9]
              · intro a W hG hR hO hp
                have h70 : slotOf a 70 = .slice (some ⟨lb, lo, none⟩) days.length rp := hp.1
                have h71 : slotOf a 71 = .int .i64 k := hp.2.1
                refine wp_yields (v := .pointer (some ⟨lb, lo + k, none⟩)) ?_ ⟨_, rfl, rfl, Below.refl _ _, hG⟩
                simp [slotOf] at h70 h71
                simp [execOp, go_sem, h70, h71, hkn]
              · intro a W hG hR hO hp
                have h72 : slotOf a 72 = .pointer (some ⟨lb, lo + k, none⟩) := hp.1
                have c0 := keep_cell hly hG
                refine wp_yields (v := vi y) ?_ ⟨_, rfl, rfl, Below.refl _ _, hG⟩
                simp [slotOf] at h72
                simp [execOp, go_sem, h72, c0]
              · intro a W hG hR hO hp
                have h68 : slotOf a 68 = .agg #[vi d.lo, vi d.hi] := hp.1
                have h73 : slotOf a 73 = vi y := hp.2.1
                refine wp_enters (f := 91) (args := #[.agg #[vi d.lo, vi d.hi], .int .i64 y]) ?_ ((has_any d.lo d.hi y W).mono ?_)
                · simp [slotOf] at h68 h73
                  simp [go_sem, h68, h73]
                · rintro e w' ⟨rfl, rfl⟩
                  exact ⟨_, rfl, _, rfl, congrArg Value.bool HBB.out.symm, (Below.refl _ _).alloc (Nat.le_refl _) _, hG.alloc hG.size _⟩
            · intro W hG hR
              rintro _ rfl _ rfl _ rfl _ rfl _ rfl _ rfl _ rfl _ rfl
              change wpList _ _ _ _ _ _
              simp only [Act.put, List.setIfInBounds_toArray, List.set_cons_zero, List.set_cons_succ, List.drop_succ_cons, List.drop_zero]
              have HZ := Lib.hid (HS.out _ _ HX.out hG)
              clear hG hR c0' c1' t2' hly HX
              cases bb
              · have HF := Lib.hid (show t2 = false by rw [HT2.out]; exact goodB_false hlt (by rw [HV.out]; exact HBB.out.symm))
                go_wp2_with fail
                go_ret
                exact ⟨by rw [HF.out]; simp, HZ.out.1⟩
              · have HF := Lib.hid (goodTo_succ HG2.out (show rnB days rn k = true by rw [HV.out]; exact HBB.out.symm))
                go_wp2_with fail
                first
                  | (go_roundw; (case rel => exact ⟨k + 1, by omega, by go_num, HZ.out, HF.out⟩); (case measure => simp [intOf]; omega))
                  | exact ⟨⟨k + 1, by omega, by push_cast; rfl, HZ.out, HF.out⟩, by (simp only [intOf]; omega)⟩
          · have hkn : k = days.length := by omega
            subst hkn
            have HF2 := Lib.hid (show t2 = true by rw [HT2.out]; exact goodB_true HG2.out)
            have HX0 := Lib.hid hx.1
            clear hx
            go_wp2_with fail
            go_ret
            exact ⟨by rw [HF1.out, HF2.out]; rfl, HX0.out⟩
  all_goals
    (go_enter Try.func67, Try.ntmps67
     go_wp2_with (go_at_call 91; refine (has_any _ _ _ _).mono ?_; rintro e w' ⟨rfl, rfl⟩)
     go_ret
     refine ⟨by simp, ?_⟩
     first
       | exact (((Below.refl _ _).alloc (Nat.le_refl _) _).alloc (by simp) _).alloc (by simp; omega) _
       | exact ((((Below.refl _ _).alloc (Nat.le_refl _) _).alloc (by simp) _).alloc (by simp; omega) _).alloc (by simp; omega) _)

set_option maxRecDepth 100000 in
set_option maxHeartbeats 2000000 in
theorem refFits (g : Gnd) (A : Option Addr) (cp : Nat) (days : List Day) (D : Option Addr) (dp : Nat) (snow soak : Int) (lv : List Int) (L : Option Addr) (lp : Nat) (rn : List Int) (R : Option Addr) (rp : Nat) (w : World) (hn : g.cells.length ≤ 1000) (hm : days.length ≤ 1000) (_ : lv.length ≤ 1000) (_ : rn.length ≤ 1000)
    (hc : Row cellL 7 w w.heap.size A g.cells) (hd : Row dayL 3 w w.heap.size D days) (hL : Row intL 1 w w.heap.size L lv) (hR : Row intL 1 w w.heap.size R rn) :
    Calls Try.prog 35 #[gndV A cp g, .slice D days.length dp, truthV snow soak L lv.length lp R rn.length rp] w fun e w' => e = .returned (.bool (fitsB g days snow soak lv rn)) ∧ Below w.heap.size w w' := by
  have HC := Lib.hid hc
  have HD := Lib.hid hd
  have HL := Lib.hid hL
  have HR := Lib.hid hR
  clear hc hd hL hR
  unfold fitsB
  by_cases hlen : lv.length = g.cells.length
  case neg =>
    have hb0 : (lv.length == g.cells.length) = false := by simpa using hlen
    have hb1 : (lv.length != g.cells.length) = true := by simpa using hlen
    have hb2 : ((lv.length : Int) == (g.cells.length : Int)) = false := by simp; omega
    have hb3 : ((lv.length : Int) != (g.cells.length : Int)) = true := by simp; omega
    rw [decide_eq_false hlen]
    clear hlen
    go_enter Try.func35, Try.ntmps35
    go_wp2_with fail
    go_ret
    exact ⟨rfl, ((Below.refl _ _).alloc (Nat.le_refl _) _).alloc (by simp) _⟩
  case pos =>
  by_cases hlen2 : rn.length = days.length
  case neg =>
    have hb0 : (rn.length == days.length) = false := by simpa using hlen2
    have hb1 : (rn.length != days.length) = true := by simpa using hlen2
    have hb2 : ((rn.length : Int) == (days.length : Int)) = false := by simp; omega
    have hb3 : ((rn.length : Int) != (days.length : Int)) = true := by simp; omega
    rw [decide_eq_true hlen, decide_eq_false hlen2, hlen]
    clear hlen hlen2
    go_enter Try.func35, Try.ntmps35
    go_wp2_with fail
    go_ret
    exact ⟨rfl, ((Below.refl _ _).alloc (Nat.le_refl _) _).alloc (by simp) _⟩
  case pos =>
  rw [decide_eq_true hlen, decide_eq_true hlen2, hlen, hlen2]
  have HLE := Lib.hid (And.intro hlen hlen2)
  clear hlen hlen2
  obtain ⟨t1, ht1⟩ : ∃ t, t = goodB g.cells.length (lvB g lv) := ⟨_, rfl⟩
  obtain ⟨t2, ht2⟩ : ∃ t, t = goodB days.length (rnB days rn) := ⟨_, rfl⟩
  rw [← ht1, ← ht2]
  have HT1 := Lib.hid ht1
  have HT2 := Lib.hid ht2
  clear ht1 ht2
  simp only [Bool.true_and]
  go_enter Try.func35, Try.ntmps35
  go_wp2_with fail
  have hbx : Below w.heap.size w ((w.alloc (.cells (gndC A cp g) 26)).alloc (.cells #[vi snow, vi soak, .slice L g.cells.length lp, .slice R days.length rp] 47)) ∧ Whole ((w.alloc (.cells (gndC A cp g) 26)).alloc (.cells #[vi snow, vi soak, .slice L g.cells.length lp, .slice R days.length rp] 47)) w.heap.size 26 (gndC A cp g) ∧ Whole ((w.alloc (.cells (gndC A cp g) 26)).alloc (.cells #[vi snow, vi soak, .slice L g.cells.length lp, .slice R days.length rp] 47)) (w.heap.size + 1) 47 #[vi snow, vi soak, .slice L g.cells.length lp, .slice R days.length rp] := by
    refine ⟨((Below.refl _ _).alloc (Nat.le_refl _) _).alloc (by simp) _, (Whole.made w 26 _).alloc _, ?_⟩
    have := Whole.made (w.alloc (.cells (gndC A cp g) 26)) 47 #[vi snow, vi soak, .slice L g.cells.length lp, .slice R days.length rp]
    rw [World.size_alloc] at this
    exact this
  have HB := Lib.hid hbx
  clear hbx
  have hst : ∀ W W', (Below w.heap.size w W ∧ Whole W w.heap.size 26 (gndC A cp g) ∧ Whole W (w.heap.size + 1) 47 #[vi snow, vi soak, .slice L g.cells.length lp, .slice R days.length rp]) → newer W W' → (Below w.heap.size w W' ∧ Whole W' w.heap.size 26 (gndC A cp g) ∧ Whole W' (w.heap.size + 1) 47 #[vi snow, vi soak, .slice L g.cells.length lp, .slice R days.length rp]) := fun W W' h hb => ⟨below_next h.1 hb, h.2.1.below hb h.2.1.lt, h.2.2.below hb h.2.2.lt⟩
  have HS := Lib.hid hst
  clear hst
  go_loopw [7] (fun s7 wr => ∃ k : Nat, k ≤ g.cells.length ∧ s7 = .int .i64 k ∧ (Below w.heap.size w wr ∧ Whole wr w.heap.size 26 (gndC A cp g) ∧ Whole wr (w.heap.size + 1) 47 #[vi snow, vi soak, .slice L g.cells.length lp, .slice R days.length rp]) ∧ goodTo (lvB g lv) k) (fun s7 _ => g.cells.length - (intOf s7).toNat)
  case atStart => exact ⟨0, Nat.zero_le _, rfl, HB.out, goodTo_zero _⟩
  case round =>
    obtain ⟨k, hk, rfl, hx, hgt⟩ := hrel
    clear HB
    have HG := Lib.hid hgt
    clear hgt
    have t2' := hx.2.2.at 2 rfl
    by_cases hlt : k < g.cells.length
    · obtain ⟨c, hck⟩ := get_of_lt hlt
      obtain ⟨b, off, rfl, hb, c0', c1', _, _, _, _, _⟩ := row7 (HC.out.below hx.1) hck
      obtain ⟨y, hy⟩ := get_of_lt (l := lv) (k := k) (by have := HLE.out.1; omega)
      obtain ⟨lb, lo, rfl, hlb, hly⟩ := row1 (HL.out.below hx.1) hy
      have hkn : (k : Int) < g.cells.length := by omega
      have HV := Lib.hid (show lvB g lv k = inB y c.lo c.hi by unfold lvB; rw [iAt_of hy, cAt_of hck])
      have e0' := hx.2.1.at 0 rfl
      have HX := Lib.hid hx
      clear hx hck hy
      obtain ⟨bb, hbb⟩ : ∃ bb, bb = inB y c.lo c.hi := ⟨_, rfl⟩
      have HBB := Lib.hid hbb
      clear hbb
      go_wp2_with fail
      refine wp_words (by kernel_rfl) (region_told 12 (by kernel_rfl) (by kernel_rfl) (fun W => Below wr.heap.size wr W) newer (pickD [vIs (.pointer (some ⟨w.heap.size, 0, none⟩)), vIs (.slice (some ⟨b, off, none⟩) g.cells.length cp), vIs (.int .i64 k), vIs (.pointer (some ⟨b, off + k * 7, none⟩)), vIs (.pointer (some ⟨b, off + k * 7, none⟩)), vIs (.agg #[vi c.lo, vi c.hi]), vIs (.pointer (some ⟨w.heap.size + 1, 2, none⟩)), vIs (.slice (some ⟨lb, lo, none⟩) g.cells.length lp), vIs (.int .i64 k), vIs (.pointer (some ⟨lb, lo + k, none⟩)), vIs (vi y), vIs (.bool bb)]) (fun h k => newer_trans h k) (pickD_stable _ ⟨vIs_st, vIs_st, vIs_st, vIs_st, vIs_st, vIs_st, vIs_st, vIs_st, vIs_st, vIs_st, vIs_st, vIs_st, trivial⟩) (Below.refl _ wr).drew (Below.refl _ _) ?_ ?_)
      · refine ⟨?_, ?_, ?_, ?_, ?_, ?_, ?_, ?_, ?_, ?_, ?_, ?_, trivial⟩
        · intro a W hG hR hO hp
          have h3 := hO.slot 3 (by kernel_rfl)
          refine wp_yields (v := .pointer (some ⟨w.heap.size, 0, none⟩)) ?_ ⟨_, rfl, rfl, Below.refl _ _, hG⟩
          simp [slotOf] at h3
          simp [execOp, go_sem, h3]
        · intro a W hG hR hO hp
          have h31 : slotOf a 31 = .pointer (some ⟨w.heap.size, 0, none⟩) := hp.1
          have c0 := keep_cell e0' hG
          refine wp_yields (v := .slice (some ⟨b, off, none⟩) g.cells.length cp) ?_ ⟨_, rfl, rfl, Below.refl _ _, hG⟩
          simp [slotOf] at h31
          simp [execOp, go_sem, h31, c0]
        · intro a W hG hR hO hp
          have h7 := hO.slot 7 (by kernel_rfl)
          refine wp_yields (v := .int .i64 k) ?_ ⟨_, rfl, rfl, Below.refl _ _, hG⟩
          simp [slotOf] at h7
          simp [execOp, go_sem, h7]
        · intro a W hG hR hO hp
          have h32 : slotOf a 32 = .slice (some ⟨b, off, none⟩) g.cells.length cp := hp.1
          have h33 : slotOf a 33 = .int .i64 k := hp.2.1
          refine wp_yields (v := .pointer (some ⟨b, off + k * 7, none⟩)) ?_ ⟨_, rfl, rfl, Below.refl _ _, hG⟩
          simp [slotOf] at h32 h33
          simp [execOp, go_sem, h32, h33, hkn]
        · intro a W hG hR hO hp
          have h34 : slotOf a 34 = .pointer (some ⟨b, off + k * 7, none⟩) := hp.1
          refine wp_yields (v := .pointer (some ⟨b, off + k * 7, none⟩)) ?_ ⟨_, rfl, rfl, Below.refl _ _, hG⟩
          simp [slotOf] at h34
          simp [execOp, go_sem, h34]
        · intro a W hG hR hO hp
          have h35 : slotOf a 35 = .pointer (some ⟨b, off + k * 7, none⟩) := hp.1
          have c0 := keep_cell c0' hG
          have c1 := keep_cell c1' hG
          refine wp_yields (v := .agg #[vi c.lo, vi c.hi]) ?_ ⟨_, rfl, rfl, Below.refl _ _, hG⟩
          simp [slotOf] at h35
          simp [execOp, go_sem, h35, c0, c1]
        · intro a W hG hR hO hp
          have h5 := hO.slot 5 (by kernel_rfl)
          refine wp_yields (v := .pointer (some ⟨w.heap.size + 1, 2, none⟩)) ?_ ⟨_, rfl, rfl, Below.refl _ _, hG⟩
          simp [slotOf] at h5
          simp [execOp, go_sem, h5]
        · intro a W hG hR hO hp
          have h37 : slotOf a 37 = .pointer (some ⟨w.heap.size + 1, 2, none⟩) := hp.1
          have c0 := keep_cell t2' hG
          refine wp_yields (v := .slice (some ⟨lb, lo, none⟩) g.cells.length lp) ?_ ⟨_, rfl, rfl, Below.refl _ _, hG⟩
          simp [slotOf] at h37
          simp [execOp, go_sem, h37, c0]
        · intro a W hG hR hO hp
          have h7 := hO.slot 7 (by kernel_rfl)
          refine wp_yields (v := .int .i64 k) ?_ ⟨_, rfl, rfl, Below.refl _ _, hG⟩
          simp [slotOf] at h7
          simp [execOp, go_sem, h7]
        · intro a W hG hR hO hp
          have h38 : slotOf a 38 = .slice (some ⟨lb, lo, none⟩) g.cells.length lp := hp.1
          have h39 : slotOf a 39 = .int .i64 k := hp.2.1
          refine wp_yields (v := .pointer (some ⟨lb, lo + k, none⟩)) ?_ ⟨_, rfl, rfl, Below.refl _ _, hG⟩
          simp [slotOf] at h38 h39
          simp [execOp, go_sem, h38, h39, hkn]
        · intro a W hG hR hO hp
          have h40 : slotOf a 40 = .pointer (some ⟨lb, lo + k, none⟩) := hp.1
          have c0 := keep_cell hly hG
          refine wp_yields (v := vi y) ?_ ⟨_, rfl, rfl, Below.refl _ _, hG⟩
          simp [slotOf] at h40
          simp [execOp, go_sem, h40, c0]
        · intro a W hG hR hO hp
          have h36 : slotOf a 36 = .agg #[vi c.lo, vi c.hi] := hp.1
          have h41 : slotOf a 41 = vi y := hp.2.1
          refine wp_enters (f := 71) (args := #[.agg #[vi c.lo, vi c.hi], .int .i64 y]) ?_ ((refHas_any c.lo c.hi y W).mono ?_)
          · simp [slotOf] at h36 h41
            simp [go_sem, h36, h41]
          · rintro e w' ⟨rfl, rfl⟩
            exact ⟨_, rfl, _, rfl, congrArg Value.bool HBB.out.symm, (Below.refl _ _).alloc (Nat.le_refl _) _, hG.alloc hG.size _⟩
      · intro W hG hR
        rintro _ rfl _ rfl _ rfl _ rfl _ rfl _ rfl _ rfl _ rfl _ rfl _ rfl _ rfl _ rfl
        change wpList _ _ _ _ _ _
        simp only [Act.put, List.setIfInBounds_toArray, List.set_cons_zero, List.set_cons_succ, List.drop_succ_cons, List.drop_zero]
        have HZ := Lib.hid (HS.out _ _ HX.out hG)
        clear hG hR c0' c1' t2' e0' hly HX
        cases bb
        · have HF := Lib.hid (show t1 = false by rw [HT1.out]; exact goodB_false hlt (by rw [HV.out]; exact HBB.out.symm))
          go_wp2_with fail
          go_ret
          exact ⟨by rw [HF.out]; simp, HZ.out.1⟩
        · have HF := Lib.hid (goodTo_succ HG.out (show lvB g lv k = true by rw [HV.out]; exact HBB.out.symm))
          go_wp2_with fail
          first
            | (go_roundw; (case rel => exact ⟨k + 1, by omega, by go_num, HZ.out, HF.out⟩); (case measure => simp [intOf]; omega))
            | exact ⟨⟨k + 1, by omega, by push_cast; rfl, HZ.out, HF.out⟩, by (simp only [intOf]; omega)⟩
    · have hkn : k = g.cells.length := by omega
      subst hkn
      have HF1 := Lib.hid (show t1 = true by rw [HT1.out]; exact goodB_true HG.out)
      have HX0 := Lib.hid hx
      clear hx
      go_wp2_with fail
      clear t2'
      go_loopw [8] (fun s8 wr => ∃ k : Nat, k ≤ days.length ∧ s8 = .int .i64 k ∧ (Below w.heap.size w wr ∧ Whole wr w.heap.size 26 (gndC A cp g) ∧ Whole wr (w.heap.size + 1) 47 #[vi snow, vi soak, .slice L g.cells.length lp, .slice R days.length rp]) ∧ goodTo (rnB days rn) k) (fun s8 _ => days.length - (intOf s8).toNat)
      case atStart => exact ⟨0, Nat.zero_le _, rfl, HX0.out, goodTo_zero _⟩
      case round =>
        obtain ⟨k, hk, rfl, hx, hgt⟩ := hrel
        clear HX0
        have HG2 := Lib.hid hgt
        clear hgt
        have t2' := hx.2.2.at 3 rfl
        by_cases hlt : k < days.length
        · obtain ⟨d, hdk⟩ := get_of_lt hlt
          obtain ⟨b, off, rfl, hb, c0', c1', _⟩ := row3 (HD.out.below hx.1) hdk
          obtain ⟨y, hy⟩ := get_of_lt (l := rn) (k := k) (by have := HLE.out.2; omega)
          obtain ⟨lb, lo, rfl, hlb, hly⟩ := row1 (HR.out.below hx.1) hy
          have hkn : (k : Int) < days.length := by omega
          have HV := Lib.hid (show rnB days rn k = inB y d.lo d.hi by unfold rnB; rw [iAt_of hy, dAt_of hdk])
          have HX := Lib.hid hx
          clear hx hdk hy
          obtain ⟨bb, hbb⟩ : ∃ bb, bb = inB y d.lo d.hi := ⟨_, rfl⟩
          have HBB := Lib.hid hbb
          clear hbb
          go_wp2_with fail
          refine wp_words (by kernel_rfl) (region_told 11 (by kernel_rfl) (by kernel_rfl) (fun W => Below wr.heap.size wr W) newer (pickD [vIs (.slice (some ⟨b, off, none⟩) days.length dp), vIs (.int .i64 k), vIs (.pointer (some ⟨b, off + k * 3, none⟩)), vIs (.pointer (some ⟨b, off + k * 3, none⟩)), vIs (.agg #[vi d.lo, vi d.hi]), vIs (.pointer (some ⟨w.heap.size + 1, 3, none⟩)), vIs (.slice (some ⟨lb, lo, none⟩) days.length rp), vIs (.int .i64 k), vIs (.pointer (some ⟨lb, lo + k, none⟩)), vIs (vi y), vIs (.bool bb)]) (fun h k => newer_trans h k) (pickD_stable _ ⟨vIs_st, vIs_st, vIs_st, vIs_st, vIs_st, vIs_st, vIs_st, vIs_st, vIs_st, vIs_st, vIs_st, trivial⟩) (Below.refl _ wr).drew (Below.refl _ _) ?_ ?_)
          · refine ⟨?_, ?_, ?_, ?_, ?_, ?_, ?_, ?_, ?_, ?_, ?_, trivial⟩
            · intro a W hG hR hO hp
              have h1 := hO.slot 1 (by kernel_rfl)
              refine wp_yields (v := .slice (some ⟨b, off, none⟩) days.length dp) ?_ ⟨_, rfl, rfl, Below.refl _ _, hG⟩
              simp [slotOf] at h1
              simp [execOp, go_sem, h1]
            · intro a W hG hR hO hp
              have h8 := hO.slot 8 (by kernel_rfl)
              refine wp_yields (v := .int .i64 k) ?_ ⟨_, rfl, rfl, Below.refl _ _, hG⟩
              simp [slotOf] at h8
              simp [execOp, go_sem, h8]
            · intro a W hG hR hO hp
              have h51 : slotOf a 51 = .slice (some ⟨b, off, none⟩) days.length dp := hp.1
              have h52 : slotOf a 52 = .int .i64 k := hp.2.1
              refine wp_yields (v := .pointer (some ⟨b, off + k * 3, none⟩)) ?_ ⟨_, rfl, rfl, Below.refl _ _, hG⟩
              simp [slotOf] at h51 h52
              simp [execOp, go_sem, h51, h52, hkn]
            · intro a W hG hR hO hp
              have h53 : slotOf a 53 = .pointer (some ⟨b, off + k * 3, none⟩) := hp.1
              refine wp_yields (v := .pointer (some ⟨b, off + k * 3, none⟩)) ?_ ⟨_, rfl, rfl, Below.refl _ _, hG⟩
              simp [slotOf] at h53
              simp [execOp, go_sem, h53]
            · intro a W hG hR hO hp
              have h54 : slotOf a 54 = .pointer (some ⟨b, off + k * 3, none⟩) := hp.1
              have c0 := keep_cell c0' hG
              have c1 := keep_cell c1' hG
              refine wp_yields (v := .agg #[vi d.lo, vi d.hi]) ?_ ⟨_, rfl, rfl, Below.refl _ _, hG⟩
              simp [slotOf] at h54
              simp [execOp, go_sem, h54, c0, c1]
            · intro a W hG hR hO hp
              have h5 := hO.slot 5 (by kernel_rfl)
              refine wp_yields (v := .pointer (some ⟨w.heap.size + 1, 3, none⟩)) ?_ ⟨_, rfl, rfl, Below.refl _ _, hG⟩
              simp [slotOf] at h5
              simp [execOp, go_sem, h5]
            · intro a W hG hR hO hp
              have h56 : slotOf a 56 = .pointer (some ⟨w.heap.size + 1, 3, none⟩) := hp.1
              have c0 := keep_cell t2' hG
              refine wp_yields (v := .slice (some ⟨lb, lo, none⟩) days.length rp) ?_ ⟨_, rfl, rfl, Below.refl _ _, hG⟩
              simp [slotOf] at h56
              simp [execOp, go_sem, h56, c0]
            · intro a W hG hR hO hp
              have h8 := hO.slot 8 (by kernel_rfl)
              refine wp_yields (v := .int .i64 k) ?_ ⟨_, rfl, rfl, Below.refl _ _, hG⟩
              simp [slotOf] at h8
              simp [execOp, go_sem, h8]
            · intro a W hG hR hO hp
              have h57 : slotOf a 57 = .slice (some ⟨lb, lo, none⟩) days.length rp := hp.1
              have h58 : slotOf a 58 = .int .i64 k := hp.2.1
              refine wp_yields (v := .pointer (some ⟨lb, lo + k, none⟩)) ?_ ⟨_, rfl, rfl, Below.refl _ _, hG⟩
              simp [slotOf] at h57 h58
              simp [execOp, go_sem, h57, h58, hkn]
            · intro a W hG hR hO hp
              have h59 : slotOf a 59 = .pointer (some ⟨lb, lo + k, none⟩) := hp.1
              have c0 := keep_cell hly hG
              refine wp_yields (v := vi y) ?_ ⟨_, rfl, rfl, Below.refl _ _, hG⟩
              simp [slotOf] at h59
              simp [execOp, go_sem, h59, c0]
            · intro a W hG hR hO hp
              have h55 : slotOf a 55 = .agg #[vi d.lo, vi d.hi] := hp.1
              have h60 : slotOf a 60 = vi y := hp.2.1
              refine wp_enters (f := 71) (args := #[.agg #[vi d.lo, vi d.hi], .int .i64 y]) ?_ ((refHas_any d.lo d.hi y W).mono ?_)
              · simp [slotOf] at h55 h60
                simp [go_sem, h55, h60]
              · rintro e w' ⟨rfl, rfl⟩
                exact ⟨_, rfl, _, rfl, congrArg Value.bool HBB.out.symm, (Below.refl _ _).alloc (Nat.le_refl _) _, hG.alloc hG.size _⟩
          · intro W hG hR
            rintro _ rfl _ rfl _ rfl _ rfl _ rfl _ rfl _ rfl _ rfl _ rfl _ rfl _ rfl
            change wpList _ _ _ _ _ _
            simp only [Act.put, List.setIfInBounds_toArray, List.set_cons_zero, List.set_cons_succ, List.drop_succ_cons, List.drop_zero]
            have HZ := Lib.hid (HS.out _ _ HX.out hG)
            clear hG hR c0' c1' t2' hly HX
            cases bb
            · have HF := Lib.hid (show t2 = false by rw [HT2.out]; exact goodB_false hlt (by rw [HV.out]; exact HBB.out.symm))
              go_wp2_with fail
              go_ret
              exact ⟨by rw [HF.out]; simp, HZ.out.1⟩
            · have HF := Lib.hid (goodTo_succ HG2.out (show rnB days rn k = true by rw [HV.out]; exact HBB.out.symm))
              go_wp2_with fail
              first
                | (go_roundw; (case rel => exact ⟨k + 1, by omega, by go_num, HZ.out, HF.out⟩); (case measure => simp [intOf]; omega))
                | exact ⟨⟨k + 1, by omega, by push_cast; rfl, HZ.out, HF.out⟩, by (simp only [intOf]; omega)⟩
        · have hkn : k = days.length := by omega
          subst hkn
          have HF2 := Lib.hid (show t2 = true by rw [HT2.out]; exact goodB_true HG2.out)
          have g1' := hx.2.1.at 1 (v := vi g.slo) rfl
          have g2' := hx.2.1.at 2 (v := vi g.shi) rfl
          have g3' := hx.2.1.at 3 (v := vi g.klo) rfl
          have g4' := hx.2.1.at 4 (v := vi g.khi) rfl
          have u0' := hx.2.2.at 0 rfl
          have u1' := hx.2.2.at 1 rfl
          have hlw := hx.2.2.lt
          have hlw0 := hx.2.1.lt
          have HX0 := Lib.hid hx.1
          clear hx
          cases q1 : inB snow g.slo g.shi
          · go_wp2_with fail
            refine (refHas_any _ _ _ _).mono ?_
            rintro e w' ⟨rfl, rfl⟩
            rw [q1]
            go_wp2_with fail
            go_ret
            exact ⟨by simp [q1], HX0.out.alloc HX0.out.size _⟩
          · go_wp2_with fail
            refine (refHas_any _ _ _ _).mono ?_
            rintro e w' ⟨rfl, rfl⟩
            rw [q1]
            go_wp2_with fail
            refine (refHas_any _ _ _ _).mono ?_
            rintro e w' ⟨rfl, rfl⟩
            go_wp2_with fail
            go_ret
            refine ⟨by rw [HF1.out, HF2.out]; simp [q1], (HX0.out.alloc HX0.out.size _).alloc (by simp; have := HX0.out.size; omega) _⟩

end Go.Proofs.Yteonkhohloabfaa
