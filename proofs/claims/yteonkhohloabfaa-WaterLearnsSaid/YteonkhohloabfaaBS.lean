/- Agrees: does a soak, with readings? -/
import Derived.Test.YteonkhohloabfaaBR
namespace Go.Proofs.Yteonkhohloabfaa
open Go.RowKit

/-- Does a soak agree with readings, where all else is known? -/
def agB (g : Gnd) (days : List Day) (soak : Int) (x : Rdg) : Bool := inB (lvL g days soak (x.cell, x.day)) x.lo x.hi
abbrev agC (g : Gnd) (days : List Day) (soak : Int) (L : Option Addr) (lp : Nat) (R : Option Addr) (rp : Nat) : Array Value := #[vi (endOf false g.slo g.shi), vi soak, .slice L g.cells.length lp, .slice R days.length rp]
/-- The truth's box of Agrees. -/
structure AgT (tb : Nat) (g : Gnd) (days : List Day) (soak : Int) (L : Option Addr) (lp : Nat) (R : Option Addr) (rp : Nat) (W : World) : Prop where
  tb : Whole W tb 47 (agC g days soak L lp R rp)
  hl : Row intL 1 W W.heap.size L (g.cells.map fun c => endOf false c.lo c.hi)
  hr : Row intL 1 W W.heap.size R (days.map fun d => endOf false d.lo d.hi)
section
variable {tb : Nat} {g : Gnd} {days : List Day} {soak : Int} {L : Option Addr} {lp : Nat} {R : Option Addr} {rp : Nat} {W W' : World}
theorem AgT.next (h : AgT tb g days soak L lp R rp W) (hb : newer W W') : AgT tb g days soak L lp R rp W' := ⟨h.tb.below hb h.tb.lt, (h.hl.below hb).more hb.size, (h.hr.below hb).more hb.size⟩
theorem AgT.made (hl : Row intL 1 W W.heap.size L (g.cells.map fun c => endOf false c.lo c.hi)) (hr : Row intL 1 W W.heap.size R (days.map fun d => endOf false d.lo d.hi)) :
    AgT W.heap.size g days soak L lp R rp (W.alloc (.cells (agC g days soak L lp R rp) 47)) := ⟨Whole.made _ _ _, row_alloc hl _, row_alloc hr _⟩
end
theorem refAfterS (g : Gnd) (A : Option Addr) (cp : Nat) (days : List Day) (D : Option Addr) (dp : Nat) (L : Option Addr) (lp : Nat) (R : Option Addr) (rp : Nat) (soak : Int) (hf : faultN g days = 0) (h0 : g.klo ≤ soak) (h1 : soak ≤ g.khi) (k : Nat) (hk : k ≤ days.length) (w : World)
    (hc : Row cellL 7 w w.heap.size A g.cells) (hd : Row dayL 3 w w.heap.size D days) (hL : Row intL 1 w w.heap.size L (g.cells.map fun c => endOf false c.lo c.hi)) (hR : Row intL 1 w w.heap.size R (days.map fun d => endOf false d.lo d.hi)) :
    Calls Try.prog 22 #[gndV A cp g, .slice D days.length dp, truthV (endOf false g.slo g.shi) soak L g.cells.length lp R days.length rp, .int .i64 (k : Int)] w (aftered w g.cells.length (stL g days soak k)) := by
  have := refAfter g A cp days D dp (endOf false g.slo g.shi) soak (g.cells.map fun c => endOf false c.lo c.hi) L lp (days.map fun d => endOf false d.lo d.hi) R rp (wayOk_soak hf h0 h1) (fault_cells hf).1 (List.length_map _) k hk w hc hd hL hR
  simp only [List.length_map] at this
  exact this
set_option maxRecDepth 100000 in
set_option maxHeartbeats 2000000 in
theorem agrees_any (g : Gnd) (A : Option Addr) (ap : Nat) (days : List Day) (D : Option Addr) (dp : Nat) (l : List Rdg) (X : Option Addr) (xp : Nat) (soak : Int) (w : World) (hf : faultN g days = 0) (hs0 : g.klo ≤ soak) (hs1 : soak ≤ g.khi) (hl : l.length ≤ 30) (hall : l.all (rdgB g.cells.length days.length) = true)
    (hc : Row cellL 7 w w.heap.size A g.cells) (hd : Row dayL 3 w w.heap.size D days) (hr : Row rdgL 4 w w.heap.size X l) :
    Calls Try.prog 45 #[gndV A ap g, .slice D days.length dp, .slice X l.length xp, vi soak] w fun e w' => e = .returned (.bool (l.all (agB g days soak))) ∧ newer w w' := by
  have hb8 := (wayOk_end false hf).few
  have hb30 := (wayOk_end false hf).many
  have HR := Lib.hid hr
  have H0 := Lib.hid (Lh.made (cp := ap) hc hd)
  have HALL := Lib.hid hall
  have HS := Lib.hid (And.intro hf (And.intro hs0 hs1))
  obtain ⟨er, her⟩ : ∃ er, er = l.all (agB g days soak) := ⟨_, rfl⟩
  rw [← her]
  have HE := Lib.hid her
  clear hc hd hr her hf hs0 hs1 hall
  go_enter Try.func45, Try.ntmps45
  go_wp2_with fail
  refine (refEnds false g A ap days D dp _ (by omega) (by omega) H0.out.hc H0.out.hd).mono ?_
  rintro e w1 ⟨L, lp, R, rp, rfl, hl1, hr1, hb, _, _⟩
  have H1 := Lib.hid (And.intro (H0.out.next hb) (And.intro hl1 hr1))
  clear hl1 hr1 hb H0
  go_wp2_with fail
  have HX : Hid (Lh w g A ap days D (w1.alloc (.cells (agC g days soak L lp R rp) 47)) ∧ AgT w1.heap.size g days soak L lp R rp (w1.alloc (.cells (agC g days soak L lp R rp) 47))) :=
    Lib.hid ⟨H1.out.1.alloc _, AgT.made H1.out.2.1 H1.out.2.2⟩
  clear H1
  go_loopw [10] (fun s10 wr => ∃ k : Nat, k ≤ l.length ∧ s10 = .int .i64 k ∧ (Lh w g A ap days D wr ∧ AgT w1.heap.size g days soak L lp R rp wr) ∧ (l.take k).all (agB g days soak) = true) (fun s10 _ => l.length - (intOf s10).toNat)
  case atStart => exact ⟨0, Nat.zero_le _, rfl, HX.out, rfl⟩
  case round =>
    obtain ⟨k, hk, rfl, hx, hag⟩ := hrel
    clear HX
    have HX := Lib.hid hx
    have HA := Lib.hid hag
    clear hag
    by_cases hlt : k < l.length
    · obtain ⟨d, hdk⟩ := get_of_lt hlt
      obtain ⟨b, off, rfl, hb, q0, q1, q2, q3⟩ := row4 (HR.out.below hx.1.below) hdk
      have hkn : (k : Int) < l.length := by omega
      have e0 := hx.1.gb.at 0 (v := .slice A g.cells.length ap) rfl
      have e1 := hx.1.gb.at 1 (v := vi g.slo) rfl
      have e2 := hx.1.gb.at 2 (v := vi g.shi) rfl
      have e3 := hx.1.gb.at 3 (v := vi g.klo) rfl
      have e4 := hx.1.gb.at 4 (v := vi g.khi) rfl
      have e5 := hx.1.gb.at 5 (v := vi g.melt) rfl
      have t0 := hx.2.tb.at 0 (v := vi (endOf false g.slo g.shi)) rfl
      have t1 := hx.2.tb.at 1 (v := vi soak) rfl
      have t2 := hx.2.tb.at 2 (v := .slice L g.cells.length lp) rfl
      have t3 := hx.2.tb.at 3 (v := .slice R days.length rp) rfl
      have HDK := Lib.hid hdk
      have hrd : rdgB g.cells.length days.length d = true := List.all_eq_true.1 HALL.out d (List.mem_of_getElem? hdk)
      simp only [rdgB, inB, Bool.and_eq_true, decide_eq_true_eq] at hrd
      obtain ⟨ci, hci⟩ := Int.eq_ofNat_of_zero_le hrd.1.1.1
      obtain ⟨di, hdi⟩ := Int.eq_ofNat_of_zero_le hrd.1.2.1
      have hcl : ci < g.cells.length := by omega
      have hdl : di < days.length := by omega
      have hcn : (ci : Int) < g.cells.length := by omega
      have hdw : IntKind.i64.wrap ((di : Int) + 1) = (di : Int) + 1 := IntWalk.i64_in _ (by omega)
      obtain ⟨bb, hbb⟩ : ∃ bb, bb = inB ((stL g days soak (di + 1)).f ci) d.lo d.hi := ⟨_, rfl⟩
      have HB : Hid (agB g days soak d = bb) := Lib.hid (by rw [hbb, agB, lvL, hci, hdi]; rfl)
      have HBB := Lib.hid hbb
      rw [hci] at q0
      rw [hdi] at q1
      clear hx hdk hrd hbb
      go_wp2_with fail
      refine wp_words (by kernel_rfl) (region_told 16 (by kernel_rfl) (by kernel_rfl) (fun W => Below wr.heap.size wr W) newer (pickD [vIs (gndV A ap g), vIs (.slice D days.length dp), vIs (truthV (endOf false g.slo g.shi) soak L g.cells.length lp R days.length rp), vIs (.slice (some ⟨b, off, none⟩) l.length xp), vIs (.int .i64 k), vIs (.pointer (some ⟨b, off + k * 4, none⟩)), vIs (.pointer (some ⟨b, off + k * 4 + 1, none⟩)), vIs (vi di), vIs (.int .i64 ((di : Int) + 1)), vAfter g.cells.length (stL g days soak (di + 1)), vAfter g.cells.length (stL g days soak (di + 1)), vLev g.cells.length (stL g days soak (di + 1)).f, vIs (vi (stL g days soak (di + 1)).left), vIs (vi (stL g days soak (di + 1)).snow), vLev g.cells.length (stL g days soak (di + 1)).f, vIs (vi (stL g days soak (di + 1)).left)]) (fun h k => newer_trans h k) (pickD_stable _ ⟨vIs_st, vIs_st, vIs_st, vIs_st, vIs_st, vIs_st, vIs_st, vIs_st, vIs_st, vAfter_st, vAfter_st, vLev_st, vIs_st, vIs_st, vLev_st, vIs_st, trivial⟩) (Below.refl _ wr).drew (Below.refl _ _) ?_ ?_)
      · refine ⟨?_, ?_, ?_, ?_, ?_, ?_, ?_, ?_, ?_, ?_, ?_, ?_, ?_, ?_, ?_, ?_, trivial⟩
        · intro a W hG hR hO hp
          have h4 := hO.slot 4 (by kernel_rfl)
          have c0 := keep_cell e0 hG
          have c1 := keep_cell e1 hG
          have c2 := keep_cell e2 hG
          have c3 := keep_cell e3 hG
          have c4 := keep_cell e4 hG
          have c5 := keep_cell e5 hG
          refine wp_yields (v := gndV A ap g) ?_ ⟨_, rfl, rfl, Below.refl _ _, hG⟩
          simp [slotOf] at h4
          simp [execOp, go_sem, h4, c0, c1, c2, c3, c4, c5]
        · intro a W hG hR hO hp
          have h1 := hO.slot 1 (by kernel_rfl)
          refine wp_yields (v := .slice D days.length dp) ?_ ⟨_, rfl, rfl, Below.refl _ _, hG⟩
          simp [slotOf] at h1
          simp [execOp, go_sem, h1]
        · intro a W hG hR hO hp
          have h9 := hO.slot 9 (by kernel_rfl)
          have c0 := keep_cell t0 hG
          have c1 := keep_cell t1 hG
          have c2 := keep_cell t2 hG
          have c3 := keep_cell t3 hG
          refine wp_yields (v := truthV (endOf false g.slo g.shi) soak L g.cells.length lp R days.length rp) ?_ ⟨_, rfl, rfl, Below.refl _ _, hG⟩
          simp [slotOf] at h9
          simp [execOp, go_sem, h9, c0, c1, c2, c3]
        · intro a W hG hR hO hp
          have h2 := hO.slot 2 (by kernel_rfl)
          refine wp_yields (v := .slice (some ⟨b, off, none⟩) l.length xp) ?_ ⟨_, rfl, rfl, Below.refl _ _, hG⟩
          simp [slotOf] at h2
          simp [execOp, go_sem, h2]
        · intro a W hG hR hO hp
          have h10 := hO.slot 10 (by kernel_rfl)
          refine wp_yields (v := .int .i64 k) ?_ ⟨_, rfl, rfl, Below.refl _ _, hG⟩
          simp [slotOf] at h10
          simp [execOp, go_sem, h10]
        · intro a W hG hR hO hp
          have h29 : slotOf a 29 = .slice (some ⟨b, off, none⟩) l.length xp := hp.1
          have h30 : slotOf a 30 = .int .i64 k := hp.2.1
          refine wp_yields (v := .pointer (some ⟨b, off + k * 4, none⟩)) ?_ ⟨_, rfl, rfl, Below.refl _ _, hG⟩
          simp [slotOf] at h29 h30 hkn
          simp [execOp, go_sem, h29, h30, hkn]
        · intro a W hG hR hO hp
          have h31 : slotOf a 31 = .pointer (some ⟨b, off + k * 4, none⟩) := hp.1
          refine wp_yields (v := .pointer (some ⟨b, off + k * 4 + 1, none⟩)) ?_ ⟨_, rfl, rfl, Below.refl _ _, hG⟩
          simp [slotOf] at h31
          simp [execOp, go_sem, h31]
        · intro a W hG hR hO hp
          have h32 : slotOf a 32 = .pointer (some ⟨b, off + k * 4 + 1, none⟩) := hp.1
          have c0 := keep_cell q1 hG
          refine wp_yields (v := vi di) ?_ ⟨_, rfl, rfl, Below.refl _ _, hG⟩
          simp [slotOf] at h32
          simp [execOp, go_sem, h32, c0]
        · intro a W hG hR hO hp
          have h33 : slotOf a 33 = vi di := hp.1
          refine wp_yields (v := .int .i64 ((di : Int) + 1)) ?_ ⟨_, rfl, rfl, Below.refl _ _, hG⟩
          simp [slotOf] at h33
          simp [execOp, go_sem, h33, hdw]
        · intro a W hG hR hO hp
          have h26 : slotOf a 26 = gndV A ap g := hp.1
          have h27 : slotOf a 27 = .slice D days.length dp := hp.2.1
          have h28 : slotOf a 28 = truthV (endOf false g.slo g.shi) soak L g.cells.length lp R days.length rp := hp.2.2.1
          have h34 : slotOf a 34 = .int .i64 ((di : Int) + 1) := hp.2.2.2.1
          have haf := refAfterS g A ap days D dp L lp R rp soak HS.out.1 HS.out.2.1 HS.out.2.2 (di + 1) (by omega) W (HX.out.1.next hG).hc (HX.out.1.next hG).hd (HX.out.2.next hG).hl (HX.out.2.next hG).hr
          rw [show ((di + 1 : Nat) : Int) = (di : Int) + 1 by omega] at haf
          refine wp_enters (f := 22) (args := #[gndV A ap g, .slice D days.length dp, truthV (endOf false g.slo g.shi) soak L g.cells.length lp R days.length rp, .int .i64 ((di : Int) + 1)]) ?_ (haf.mono ?_)
          · simp [slotOf] at h26 h27 h28 h34
            simp [go_sem, h26, h27, h28, h34]
          · rintro e w' ⟨Ax, cx, rfl, hr, hb⟩
            exact ⟨_, rfl, _, rfl, ⟨Ax, cx, rfl, hr⟩, hb, below_next hG hb⟩
        · intro a W hG hR hO hp
          have h35 := hp.1
          obtain ⟨Ax, cx, h35, hr⟩ := h35
          refine wp_yields (v := .tuple #[.slice Ax g.cells.length cx, vi (stL g days soak (di + 1)).left, vi (stL g days soak (di + 1)).snow]) ?_ ⟨_, rfl, ⟨Ax, cx, rfl, hr⟩, Below.refl _ _, hG⟩
          simp [slotOf] at h35
          simp [execOp, go_sem, h35]
        · intro a W hG hR hO hp
          have h25 := hp.1
          obtain ⟨Ax, cx, h25, hr⟩ := h25
          refine wp_yields (v := .slice Ax g.cells.length cx) ?_ ⟨_, rfl, ⟨Ax, cx, rfl, hr⟩, Below.refl _ _, hG⟩
          simp [slotOf] at h25
          simp [execOp, go_sem, h25]
        · intro a W hG hR hO hp
          have h25 := hp.1
          obtain ⟨Ax, cx, h25, hr⟩ := h25
          refine wp_yields (v := vi (stL g days soak (di + 1)).left) ?_ ⟨_, rfl, rfl, Below.refl _ _, hG⟩
          simp [slotOf] at h25
          simp [execOp, go_sem, h25]
        · intro a W hG hR hO hp
          have h25 := hp.1
          obtain ⟨Ax, cx, h25, hr⟩ := h25
          refine wp_yields (v := vi (stL g days soak (di + 1)).snow) ?_ ⟨_, rfl, rfl, Below.refl _ _, hG⟩
          simp [slotOf] at h25
          simp [execOp, go_sem, h25]
        · intro a W hG hR hO hp
          have h36 := hp.1
          obtain ⟨Ax, cx, h36, hr⟩ := h36
          refine wp_yields (v := .slice Ax g.cells.length cx) ?_ ⟨_, rfl, ⟨Ax, cx, rfl, hr⟩, Below.refl _ _, hG⟩
          simp [slotOf] at h36
          simp [execOp, go_sem, h36]
        · intro a W hG hR hO hp
          have h37 : slotOf a 37 = vi (stL g days soak (di + 1)).left := hp.1
          refine wp_yields (v := vi (stL g days soak (di + 1)).left) ?_ ⟨_, rfl, rfl, Below.refl _ _, hG⟩
          simp [slotOf] at h37
          simp [execOp, go_sem, h37]
      · intro wx hG hR
        rintro _ rfl _ rfl _ rfl _ rfl _ rfl _ rfl _ rfl _ rfl _ rfl _ ⟨_, _, rfl, _⟩ _ ⟨_, _, rfl, _⟩ _ ⟨_, _, rfl, _⟩ _ rfl _ rfl _ ⟨A3, cp3, rfl, hrow⟩ _ rfl
        change wpList _ _ _ _ _ _
        simp only [Act.put, List.setIfInBounds_toArray, List.set_cons_zero, List.set_cons_succ, List.drop_succ_cons, List.drop_zero]
        have HR1 := Lib.hid (And.intro (HX.out.1.next hG) (HX.out.2.next hG))
        have HY := Lib.hid hG
        have HRW := Lib.hid hrow
        obtain ⟨lb, lo, rfl, hlb, hlv⟩ := cells_of_row hrow hcl
        clear hG hR HX e0 e1 e2 e3 e4 e5 t0 t1 t2 t3 hrow
        have p0 := keep_cell q0 HY.out
        have p2 := keep_cell q2 HY.out
        have p3 := keep_cell q3 HY.out
        clear q0 q1 q2 q3
        go_wp2_with fail
        refine wp_words (by kernel_rfl) (region_told 14 (by kernel_rfl) (by kernel_rfl) (fun W => Below wx.heap.size wx W) newer (pickD [vIs (.slice (some ⟨b, off, none⟩) l.length xp), vIs (.int .i64 k), vIs (.pointer (some ⟨b, off + k * 4, none⟩)), vIs (.pointer (some ⟨b, off + k * 4 + 2, none⟩)), vIs (.agg #[vi d.lo, vi d.hi]), vIs (.slice (some ⟨lb, lo, none⟩) g.cells.length cp3), vIs (.slice (some ⟨b, off, none⟩) l.length xp), vIs (.int .i64 k), vIs (.pointer (some ⟨b, off + k * 4, none⟩)), vIs (.pointer (some ⟨b, off + k * 4, none⟩)), vIs (vi ci), vIs (.pointer (some ⟨lb, lo + ci, none⟩)), vIs (vi ((stL g days soak (di + 1)).f ci)), vIs (.bool bb)]) (fun h k => newer_trans h k) (pickD_stable _ ⟨vIs_st, vIs_st, vIs_st, vIs_st, vIs_st, vIs_st, vIs_st, vIs_st, vIs_st, vIs_st, vIs_st, vIs_st, vIs_st, vIs_st, trivial⟩) (Below.refl _ wx).drew (Below.refl _ _) ?_ ?_)
        · refine ⟨?_, ?_, ?_, ?_, ?_, ?_, ?_, ?_, ?_, ?_, ?_, ?_, ?_, ?_, trivial⟩
          · intro a W hG hR hO hp
            have h2 := hO.slot 2 (by kernel_rfl)
            refine wp_yields (v := .slice (some ⟨b, off, none⟩) l.length xp) ?_ ⟨_, rfl, rfl, Below.refl _ _, hG⟩
            simp [slotOf] at h2
            simp [execOp, go_sem, h2]
          · intro a W hG hR hO hp
            have h10 := hO.slot 10 (by kernel_rfl)
            refine wp_yields (v := .int .i64 k) ?_ ⟨_, rfl, rfl, Below.refl _ _, hG⟩
            simp [slotOf] at h10
            simp [execOp, go_sem, h10]
          · intro a W hG hR hO hp
            have h39 : slotOf a 39 = .slice (some ⟨b, off, none⟩) l.length xp := hp.1
            have h40 : slotOf a 40 = .int .i64 k := hp.2.1
            refine wp_yields (v := .pointer (some ⟨b, off + k * 4, none⟩)) ?_ ⟨_, rfl, rfl, Below.refl _ _, hG⟩
            simp [slotOf] at h39 h40 hkn
            simp [execOp, go_sem, h39, h40, hkn]
          · intro a W hG hR hO hp
            have h41 : slotOf a 41 = .pointer (some ⟨b, off + k * 4, none⟩) := hp.1
            refine wp_yields (v := .pointer (some ⟨b, off + k * 4 + 2, none⟩)) ?_ ⟨_, rfl, rfl, Below.refl _ _, hG⟩
            simp [slotOf] at h41
            simp [execOp, go_sem, h41]
          · intro a W hG hR hO hp
            have h42 : slotOf a 42 = .pointer (some ⟨b, off + k * 4 + 2, none⟩) := hp.1
            have c0 := keep_cell p2 hG
            have c1 := keep_cell p3 hG
            refine wp_yields (v := .agg #[vi d.lo, vi d.hi]) ?_ ⟨_, rfl, rfl, Below.refl _ _, hG⟩
            simp [slotOf] at h42
            simp [execOp, go_sem, h42, c0, c1]
          · intro a W hG hR hO hp
            have h11 := hO.slot 11 (by kernel_rfl)
            refine wp_yields (v := .slice (some ⟨lb, lo, none⟩) g.cells.length cp3) ?_ ⟨_, rfl, rfl, Below.refl _ _, hG⟩
            simp [slotOf] at h11
            simp [execOp, go_sem, h11]
          · intro a W hG hR hO hp
            have h2 := hO.slot 2 (by kernel_rfl)
            refine wp_yields (v := .slice (some ⟨b, off, none⟩) l.length xp) ?_ ⟨_, rfl, rfl, Below.refl _ _, hG⟩
            simp [slotOf] at h2
            simp [execOp, go_sem, h2]
          · intro a W hG hR hO hp
            have h10 := hO.slot 10 (by kernel_rfl)
            refine wp_yields (v := .int .i64 k) ?_ ⟨_, rfl, rfl, Below.refl _ _, hG⟩
            simp [slotOf] at h10
            simp [execOp, go_sem, h10]
          · intro a W hG hR hO hp
            have h45 : slotOf a 45 = .slice (some ⟨b, off, none⟩) l.length xp := hp.1
            have h46 : slotOf a 46 = .int .i64 k := hp.2.1
            refine wp_yields (v := .pointer (some ⟨b, off + k * 4, none⟩)) ?_ ⟨_, rfl, rfl, Below.refl _ _, hG⟩
            simp [slotOf] at h45 h46 hkn
            simp [execOp, go_sem, h45, h46, hkn]
          · intro a W hG hR hO hp
            have h47 : slotOf a 47 = .pointer (some ⟨b, off + k * 4, none⟩) := hp.1
            refine wp_yields (v := .pointer (some ⟨b, off + k * 4, none⟩)) ?_ ⟨_, rfl, rfl, Below.refl _ _, hG⟩
            simp [slotOf] at h47
            simp [execOp, go_sem, h47]
          · intro a W hG hR hO hp
            have h48 : slotOf a 48 = .pointer (some ⟨b, off + k * 4, none⟩) := hp.1
            have c0 := keep_cell p0 hG
            refine wp_yields (v := vi ci) ?_ ⟨_, rfl, rfl, Below.refl _ _, hG⟩
            simp [slotOf] at h48
            simp [execOp, go_sem, h48, c0]
          · intro a W hG hR hO hp
            have h44 : slotOf a 44 = .slice (some ⟨lb, lo, none⟩) g.cells.length cp3 := hp.1
            have h49 : slotOf a 49 = vi ci := hp.2.1
            refine wp_yields (v := .pointer (some ⟨lb, lo + ci, none⟩)) ?_ ⟨_, rfl, rfl, Below.refl _ _, hG⟩
            simp [slotOf] at h44 h49 hcn
            simp [execOp, go_sem, h44, h49, hcn]
          · intro a W hG hR hO hp
            have h50 : slotOf a 50 = .pointer (some ⟨lb, lo + ci, none⟩) := hp.1
            have c0 := keep_cell hlv hG
            refine wp_yields (v := vi ((stL g days soak (di + 1)).f ci)) ?_ ⟨_, rfl, rfl, Below.refl _ _, hG⟩
            simp [slotOf] at h50
            simp [execOp, go_sem, h50, c0]
          · intro a W hG hR hO hp
            have h43 : slotOf a 43 = .agg #[vi d.lo, vi d.hi] := hp.1
            have h51 : slotOf a 51 = vi ((stL g days soak (di + 1)).f ci) := hp.2.1
            refine wp_enters (f := 71) (args := #[.agg #[vi d.lo, vi d.hi], vi ((stL g days soak (di + 1)).f ci)]) ?_ ((refHas_any d.lo d.hi ((stL g days soak (di + 1)).f ci) W).mono ?_)
            · simp [slotOf] at h43 h51
              simp [go_sem, h43, h51]
            · rintro e w' ⟨rfl, rfl⟩
              exact ⟨_, rfl, _, rfl, (by rw [HBB.out]; rfl), (Below.refl _ _).alloc (Nat.le_refl _) _, hG.alloc hG.size _⟩
        · intro W hG hR
          rintro _ rfl _ rfl _ rfl _ rfl _ rfl _ rfl _ rfl _ rfl _ rfl _ rfl _ rfl _ rfl _ rfl _ rfl
          change wpList _ _ _ _ _ _
          simp only [Act.put, List.setIfInBounds_toArray, List.set_cons_zero, List.set_cons_succ, List.drop_succ_cons, List.drop_zero]
          have HZ := Lib.hid (And.intro (HR1.out.1.next hG) (HR1.out.2.next hG))
          clear hG hR HR1 p0 p2 p3 hlv HY HRW
          cases bb with
          | false =>
            have he : er = false := by
              rw [HE.out, List.all_eq_false]
              exact ⟨d, List.mem_of_getElem? HDK.out, by simp [HB.out]⟩
            subst he
            go_wp2_with fail
            go_ret
            exact ⟨rfl, HZ.out.1.below⟩
          | true =>
            go_wp2_with fail
            go_roundw
            case rel => exact ⟨k + 1, by omega, by go_num, HZ.out, by rw [take_all_succ _ HDK.out, HA.out, HB.out]; rfl⟩
            case measure => simp [intOf]; omega
    · have hke : k = l.length := by omega
      subst hke
      have he : er = true := by
        have := HA.out
        rw [List.take_length] at this
        rw [HE.out, this]
      subst he
      clear hx
      go_wp2_with fail
      go_ret
      exact ⟨rfl, HX.out.1.below⟩
end Go.Proofs.Yteonkhohloabfaa
