/- The error of a project with a plan; whether a village agrees; sums; what all works of a plan add. -/
import Derived.Test.YtpnpnfjhjjdmgaaE
namespace Go.Proofs.Ytpnpnfjhjjdmgaa
open Go.RowKit

def checkN (p : Pj) (plan : List Int) : Int := if faultN p = 0 then (if planB p.works plan then 0 else 2) else faultN p
set_option maxRecDepth 100000 in
set_option maxHeartbeats 1000000 in
theorem check_any (p : Pm) (plan : List Int) (L : Option Addr) (lp : Nat) (w : World) (hok : PmOk p w) (few : PmFew p) (hl : plan.length ≤ 1000) (hr : Row intL 1 w w.heap.size L plan) :
    Calls Try.prog 54 #[pmV p, .slice L plan.length lp] w fun e w' => e = .returned (.int .i64 (checkN p.pj plan)) ∧ newer w w' := by
  have HBX := Lib.hid (Whole.made w 35 (pmC p))
  have hnw := newer_allocH w (.cells (pmC p) 35)
  have HCK := Lib.hid (checkProject_any p (w.alloc (.cells (pmC p) 35)) (hok.next hnw) few)
  have HPL : Hid (∀ W, newer w W → Calls Try.prog 78 #[pmV p, .slice L plan.length lp] W fun e w' => e = .returned (.bool (planB p.pj.works plan)) ∧ newer W w') := Lib.hid fun W hW => planned_any p plan L lp W (hok.next hW) few hl ((hr.below hW).more hW.size)
  clear hok few hr
  unfold checkN
  by_cases hf : faultN p.pj = 0
  · rw [if_pos hf]
    rw [hf] at HCK
    clear hf
    generalize planB p.pj.works plan = bb at HPL ⊢
    cases bb
    all_goals
      (go_enter Try.func54, Try.ntmps54
       go_wp2_with (first | (go_at_call 18; refine (HCK.out).mono ?_; rintro e w1 ⟨rfl, hb1⟩; have hw := (HBX.out).below hb1 (HBX.out).lt; have x0 := hw.at 0 (v := vi p.years) rfl; have x1 := hw.at 1 (v := vi p.slopes) rfl; have x2 := hw.at 2 (v := .slice p.wa p.ws.length p.wc) rfl; have x3 := hw.at 3 (v := .slice p.na p.ns.length p.nc) rfl; have x4 := hw.at 4 (v := .slice p.va p.vs.length p.vc) rfl; have x5 := hw.at 5 (v := .slice p.pa p.ps.length p.pc) rfl; clear hw; have HN := Lib.hid (newer_trans hnw hb1); clear hb1) | (go_at_call 78; refine (HPL.out _ (HN.out)).mono ?_; rintro e w2 ⟨rfl, hb2⟩))
       go_ret
       exact ⟨rfl, newer_trans HN.out hb2⟩)
  · rw [if_neg hf]
    obtain ⟨f, hff⟩ : ∃ f, f = faultN p.pj := ⟨_, rfl⟩
    rw [← hff] at HCK hf ⊢
    have hfb : (f != 0) = true := by simpa using hf
    clear hf hff
    go_enter Try.func54, Try.ntmps54
    go_wp2_with (go_at_call 18; refine (HCK.out).mono ?_; rintro e w1 ⟨rfl, hb1⟩)
    go_ret
    exact ⟨rfl, newer_trans hnw hb1⟩
/-- Whoever has to agree to a work does. -/
def agreeB (vs : List Bool) (x : Wd) : Bool := decide (x.village = -1) || vs[x.village.toNat]?.getD false
set_option maxRecDepth 100000 in
set_option maxHeartbeats 1000000 in
theorem agreed_any (p : Pm) (x : Wk) (w : World) (hok : PmOk p w) (hv : inB x.d.village (-1) ((p.vs.length : Int) - 1) = true) :
    Calls Try.prog 62 #[pmV p, wkV x] w fun e w' => e = .returned (.bool (agreeB p.vs x.d)) ∧ newer w w' := by
  have hnw := newer_trans (newer_allocH w (.cells (pmC p) 35)) (newer_allocH (w.alloc (.cells (pmC p) 35)) (.cells (wkC x) 87))
  simp only [inB, Bool.and_eq_true, decide_eq_true_eq] at hv
  unfold agreeB
  by_cases h1 : x.d.village = -1
  · have h1b : (x.d.village == -1) = true := by rw [beq_iff_eq]; exact h1
    rw [decide_eq_true h1, Bool.true_or]
    clear h1 hv
    go_enter Try.func62, Try.ntmps62
    go_wp2_with fail
    go_ret
    exact ⟨rfl, hnw⟩
  · have h1b : (x.d.village == -1) = false := by rw [beq_eq_false_iff_ne]; exact h1
    obtain ⟨k, hk⟩ : ∃ k : Nat, x.d.village = k := ⟨x.d.village.toNat, by omega⟩
    obtain ⟨b, hb⟩ := get_of_lt (l := p.vs) (k := k) (by omega)
    have hkn : (k : Int) < p.vs.length := by omega
    rw [decide_eq_false h1, Bool.false_or, show p.vs[x.d.village.toNat]?.getD false = b by rw [hk, Int.toNat_natCast, hb]; rfl]
    obtain ⟨ab, ao, ea, _, c0⟩ := rowB (hok.next hnw).vs hb
    have HNW := Lib.hid hnw
    obtain ⟨⟨price, first, last, age, village, adds⟩, a, cp⟩ := x
    obtain ⟨years, slopes, ws, wa, wc, ns, na, nc, vs, va, vc, ps, pa, pc⟩ := p
    dsimp only at hk h1b ea hkn c0
    subst hk
    subst ea
    clear hok hb hv h1 hnw
    dsimp only [pmV, pmC, wkV]
    go_enter Try.func62, Try.ntmps62
    go_wp2_with fail
    go_ret
    exact ⟨rfl, HNW.out⟩
set_option maxRecDepth 100000 in
set_option maxHeartbeats 1000000 in
theorem sum_any (l : List Int) (A : Option Addr) (cp : Nat) (w : World) (hl : l.length ≤ 1000) (hb : ∀ x ∈ l, 0 ≤ x ∧ x ≤ 1000000000) (hr : Row intL 1 w w.heap.size A l) :
    Calls Try.prog 85 #[.slice A l.length cp] w fun e w' => e = .returned (vi l.sum) ∧ newer w w' := by
  have HR := Lib.hid hr
  have HB := Lib.hid (sum_bd hb)
  clear hr hb
  go_enter Try.func85, Try.ntmps85
  go_wp2_with fail
  go_loopw [2, 7] (fun s2 s7 wr => ∃ k : Nat, k ≤ l.length ∧ s7 = .int .i64 k ∧ s2 = vi (l.take k).sum ∧ newer w wr) (fun _ s7 _ => l.length - (intOf s7).toNat)
  case atStart => exact ⟨0, Nat.zero_le _, rfl, rfl, Below.refl _ _⟩
  case round =>
    obtain ⟨k, hk, rfl, rfl, hnw⟩ := hrel
    have HN := Lib.hid hnw
    clear hnw
    by_cases hlt : k < l.length
    · have hkm : (k : Int) < l.length := by omega
      obtain ⟨x, hx⟩ := get_of_lt hlt
      obtain ⟨b, off, e, _, c0⟩ := row1 (HR.out.below HN.out) hx
      subst e
      have h2 := HB.out (k + 1)
      have hs := sum_take hx
      have hw : IntKind.i64.wrap ((l.take k).sum + x) = (l.take (k + 1)).sum := by rw [hs]; exact IntWalk.i64_in _ (by rw [hs] at h2; push_cast at h2; omega)
      clear h2 hs hx
      go_wp2_with fail
      exact ⟨⟨k + 1, by omega, by go_num, rfl, HN.out⟩, by (simp only [intOf]; omega)⟩
    · obtain rfl : k = l.length := by omega
      rw [List.take_length]
      go_wp2_with fail
      go_ret
      exact ⟨rfl, HN.out⟩
/-- The range of what a work adds to a slope. -/
def rAt (l : List Rg) (k : Nat) : Rg := l[k]?.getD ⟨0, 0⟩
def togL (hi : Bool) (slope : Nat) (year : Int) (ws : List Wd) (plan : List Int) : List Int := (plan.zip ws).map fun q => addsN q.2 q.1 year (endR hi (rAt q.2.adds slope))
/-- What all works of a plan add to a slope in a year. -/
def togN (hi : Bool) (slope : Nat) (year : Int) (ws : List Wd) (plan : List Int) : Int := (togL hi slope year ws plan).sum
theorem addsN_bd {x : Wd} {built year number : Int} (h0 : 0 ≤ number) (h1 : number ≤ 10000) (ha : 0 ≤ x.age) : 0 ≤ addsN x built year number ∧ addsN x built year number ≤ 10000 := by
  unfold addsN
  split
  · omega
  · rename_i h
    have hd : 0 ≤ x.age * (year - built) := Int.mul_nonneg ha (by omega)
    have hm : 0 ≤ mxI 0 (1000 - x.age * (year - built)) ∧ mxI 0 (1000 - x.age * (year - built)) ≤ 1000 := by unfold mxI; split <;> omega
    have hp := mul_bd h0 h1 hm.1 hm.2
    omega
end Go.Proofs.Ytpnpnfjhjjdmgaa
