/- Whether a plan is one of a project; the error of a project with a plan; whether a village agrees; sums. -/
import Derived.Test.YtpnpnfjhjjdmgaaD
namespace Go.Proofs.Ytpnpnfjhjjdmgaa
open Go.RowKit

def okY (q : Int × Wd) : Bool := decide (q.1 = -1) || inB q.1 q.2.first q.2.last
/-- Has a plan a year for each work, or never? -/
def planB (ws : List Wd) (plan : List Int) : Bool := decide (plan.length = ws.length) && (plan.zip ws).all okY
theorem zip_at {α β : Type} {l : List α} {m : List β} {k : Nat} {x : α} {y : β} (h1 : l[k]? = some x) (h2 : m[k]? = some y) : (l.zip m)[k]? = some (x, y) := by
  rw [List.getElem?_zip_eq_some]
  exact ⟨h1, h2⟩
theorem all_bad {α : Type} {l : List α} {p : α → Bool} {k : Nat} {x : α} (h : l[k]? = some x) (hx : p x = false) : l.all p = false := by
  rw [List.all_eq_false]
  exact ⟨x, List.mem_of_getElem? h, by simp [hx]⟩
theorem all_early {α : Type} {l : List α} {p : α → Bool} (h : early (fun x => !p x) l l.length) : l.all p = true := by
  rw [List.all_eq_true]
  intro x hx
  obtain ⟨j, hj⟩ := List.mem_iff_getElem?.1 hx
  have := h j x (List.getElem?_eq_some_iff.1 hj).1 hj
  simpa using this
set_option maxRecDepth 100000 in
set_option maxHeartbeats 1000000 in
theorem planned_any (p : Pm) (plan : List Int) (L : Option Addr) (lp : Nat) (w : World) (hok : PmOk p w) (few : PmFew p) (hl : plan.length ≤ 1000) (hr : Row intL 1 w w.heap.size L plan) :
    Calls Try.prog 78 #[pmV p, .slice L plan.length lp] w fun e w' => e = .returned (.bool (planB (p.ws.map (·.d)) plan)) ∧ newer w w' := by
  have hnw := newer_allocH w (.cells (pmC p) 35)
  have HOK := Lib.hid hok
  have HR := Lib.hid hr
  have HFW := Lib.hid few.ws
  have HBX := Lib.hid (Whole.made w 35 (pmC p))
  clear hok hr few
  by_cases hlen : plan.length = p.ws.length
  · have hzl : (plan.zip (p.ws.map (·.d))).length = plan.length := by rw [List.length_zip, List.length_map]; omega
    have HZ := Lib.hid (And.intro hlen hzl)
    have hpl : planB (p.ws.map (·.d)) plan = (plan.zip (p.ws.map (·.d))).all okY := by
      unfold planB
      rw [List.length_map, decide_eq_true hlen, Bool.true_and]
    rw [hpl]
    have hb1 : ((plan.length : Int) == (p.ws.length : Int)) = true := by rw [beq_iff_eq]; omega
    have hb2 : ((plan.length : Int) != (p.ws.length : Int)) = false := by rw [bne, hb1]; rfl
    clear hlen hzl hpl
    go_enter Try.func78, Try.ntmps78
    go_wp2_with fail
    clear hb1 hb2
    go_loopw [16] (fun s16 wr => ∃ k : Nat, k ≤ plan.length ∧ s16 = .int .i64 k ∧ newer w wr ∧ Whole wr w.heap.size 35 (pmC p) ∧ early (fun x => !okY x) (plan.zip (p.ws.map (·.d))) k) (fun s16 _ => plan.length - (intOf s16).toNat)
    case atStart => exact ⟨0, Nat.zero_le _, rfl, hnw, HBX.out, early_zero _ _⟩
    case round =>
      obtain ⟨k, hk, rfl, hbw, hbx, he⟩ := hrel
      have HE := Lib.hid he
      clear he HBX
      by_cases hlt : k < plan.length
      · have hkn : (k : Int) < plan.length := by omega
        have hkw : (k : Int) < p.ws.length := by have := HZ.out.1; omega
        obtain ⟨y, hy⟩ := get_of_lt hlt
        obtain ⟨x, hx⟩ := get_of_lt (l := p.ws) (k := k) (by have := HZ.out.1; omega)
        have HZK := Lib.hid (zip_at (l := plan) (m := p.ws.map (·.d)) hy (by rw [List.getElem?_map, hx]; rfl))
        obtain ⟨b1, o1, e1, _, c1⟩ := row1 (HR.out.below hbw) hy
        obtain ⟨b2, o2, e2, _, d0, d1, d2, d3, d4, d5⟩ := row6 (HOK.out.next hbw).ws hx
        subst e1
        have z2 := hbx.at 2 (v := .slice p.wa p.ws.length p.wc) rfl
        rw [e2] at z2
        have HB := Lib.hid (And.intro hbw hbx)
        have HNX := Lib.hid (newer_trans hbw (newer_allocH wr (.cells (wkC x) 87)))
        have HBN := Lib.hid (hbx.alloc (.cells (wkC x) 87))
        clear hbw hbx hy hx e2
        by_cases hy1 : y = -1
        · have hyb : (y != -1) = false := by simp [hy1]
          have HOKY : Hid (okY (y, x.d) = true) := Lib.hid (by simp [okY, hy1])
          clear hy1
          go_wp2_with fail
          go_roundw
          case rel => exact ⟨k + 1, by omega, by go_num, HNX.out, HBN.out, early_succ HE.out HZK.out (by rw [HOKY.out]; rfl)⟩
          case measure => simp [intOf]; omega
        · have hyb : (y != -1) = true := by simp [hy1]
          cases hin : inB y x.d.first x.d.last
          · have HOKY : Hid (okY (y, x.d) = false) := Lib.hid (by simp [okY, hy1, hin])
            clear hy1
            go_wp2_with (go_at_call 48; refine (within_any _ _ _ _).mono ?_; rintro e w' ⟨rfl, rfl⟩)
            go_ret
            exact ⟨ret_bool (all_bad HZK.out HOKY.out).symm, HNX.out⟩
          · have HOKY : Hid (okY (y, x.d) = true) := Lib.hid (by simp [okY, hin])
            clear hy1
            go_wp2_with (go_at_call 48; refine (within_any _ _ _ _).mono ?_; rintro e w' ⟨rfl, rfl⟩)
            go_roundw
            case rel => exact ⟨k + 1, by omega, by go_num, HNX.out, HBN.out, early_succ HE.out HZK.out (by rw [HOKY.out]; rfl)⟩
            case measure => simp [intOf]; omega
      · obtain rfl : k = plan.length := by omega
        have hkn : ¬ ((plan.length : Int) < plan.length) := by omega
        go_wp2_with fail
        go_ret
        exact ⟨ret_bool (all_early (by rw [HZ.out.2]; exact HE.out)).symm, hbw⟩
  · have hpl : planB (p.ws.map (·.d)) plan = false := by
      unfold planB
      rw [List.length_map, decide_eq_false hlen, Bool.false_and]
    rw [hpl]
    have hb1 : ((plan.length : Int) == (p.ws.length : Int)) = false := by rw [beq_eq_false_iff_ne]; omega
    have hb2 : ((plan.length : Int) != (p.ws.length : Int)) = true := by rw [bne, hb1]; rfl
    clear hlen hpl
    go_enter Try.func78, Try.ntmps78
    go_wp2_with fail
    go_ret
    exact ⟨rfl, hnw⟩
end Go.Proofs.Ytpnpnfjhjjdmgaa
