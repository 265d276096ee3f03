/- Whether a work is one of a project; the error of a project. -/
import Derived.Test.YtpnpnfjhjjdmgaaB
namespace Go.Proofs.Ytpnpnfjhjjdmgaa
open Go.RowKit

set_option maxHeartbeats 2000000 in
theorem work_any (p : Pm) (x : Wk) (w : World) (hv : p.vs.length ≤ 1000) (hal : x.d.adds.length ≤ 1000) (har : Row rgL 2 w w.heap.size x.a x.d.adds) :
    Calls Try.prog 51 #[pmV p, wkV x] w fun e w' => e = .returned (.bool (wdB p.years p.slopes p.vs.length x.d)) ∧ Below w.heap.size w w' := by
  obtain ⟨years, slopes, ws, wa, wc, ns, na, nc, vs, va, vc, ps, pa, pc⟩ := p
  obtain ⟨⟨price, first, last, age, village, adds⟩, a, cp⟩ := x
  dsimp only at hv hal har
  dsimp only [pmV, pmC, wkV]
  have k1 : IntKind.i64.wrap ((vs.length : Int) - 1) = (vs.length : Int) - 1 := IntWalk.i64_in _ (by omega)
  cases q1 : inB price 1 1000000
  case false =>
    have he : wdB years slopes vs.length ⟨price, first, last, age, village, adds⟩ = false := by simp [wdB, q1]
    rw [he]
    clear he
    go_enter Try.func51, Try.ntmps51
    go_wp2_with (go_at_call 48; refine (within_any _ _ _ _).mono ?_; rintro e w' ⟨rfl, rfl⟩)
    go_ret
    exact ⟨rfl, ((Below.refl _ _).alloc (Nat.le_refl _) _).alloc (by simp) _⟩
  case true =>
    by_cases h2 : 0 ≤ first
    case neg =>
      have he : wdB years slopes vs.length ⟨price, first, last, age, village, adds⟩ = false := by simp [wdB, q1, h2]
      rw [he]
      clear he
      go_enter Try.func51, Try.ntmps51
      go_wp2_with (go_at_call 48; refine (within_any _ _ _ _).mono ?_; rintro e w' ⟨rfl, rfl⟩)
      go_ret
      exact ⟨rfl, ((Below.refl _ _).alloc (Nat.le_refl _) _).alloc (by simp) _⟩
    case pos =>
      by_cases h3 : first ≤ last
      case neg =>
        have he : wdB years slopes vs.length ⟨price, first, last, age, village, adds⟩ = false := by simp [wdB, q1, h2, h3]
        rw [he]
        clear he
        go_enter Try.func51, Try.ntmps51
        go_wp2_with (go_at_call 48; refine (within_any _ _ _ _).mono ?_; rintro e w' ⟨rfl, rfl⟩)
        go_ret
        exact ⟨rfl, ((Below.refl _ _).alloc (Nat.le_refl _) _).alloc (by simp) _⟩
      case pos =>
        by_cases h4 : last < years
        case neg =>
          have he : wdB years slopes vs.length ⟨price, first, last, age, village, adds⟩ = false := by simp [wdB, q1, h2, h3, h4]
          rw [he]
          clear he
          go_enter Try.func51, Try.ntmps51
          go_wp2_with (go_at_call 48; refine (within_any _ _ _ _).mono ?_; rintro e w' ⟨rfl, rfl⟩)
          go_ret
          exact ⟨rfl, ((Below.refl _ _).alloc (Nat.le_refl _) _).alloc (by simp) _⟩
        case pos =>
          cases q5 : inB age 0 1000
          case false =>
            have he : wdB years slopes vs.length ⟨price, first, last, age, village, adds⟩ = false := by simp [wdB, q1, h2, h3, h4, q5]
            rw [he]
            clear he
            go_enter Try.func51, Try.ntmps51
            go_wp2_with (go_at_call 48; refine (within_any _ _ _ _).mono ?_; rintro e w' ⟨rfl, rfl⟩)
            go_ret
            exact ⟨rfl, ((Below.refl _ _).alloc (Nat.le_refl _) _).alloc (by simp) _⟩
          case true =>
            cases q6 : inB village (-1) ((vs.length : Int) - 1)
            case false =>
              have he : wdB years slopes vs.length ⟨price, first, last, age, village, adds⟩ = false := by simp [wdB, q1, h2, h3, h4, q5, q6]
              rw [he]
              clear he
              go_enter Try.func51, Try.ntmps51
              go_wp2_with (go_at_call 48; refine (within_any _ _ _ _).mono ?_; rintro e w' ⟨rfl, rfl⟩)
              go_ret
              exact ⟨rfl, ((Below.refl _ _).alloc (Nat.le_refl _) _).alloc (by simp) _⟩
            case true =>
              by_cases h7 : (adds.length : Int) = slopes
              case neg =>
                have he : wdB years slopes vs.length ⟨price, first, last, age, village, adds⟩ = false := by simp [wdB, q1, h2, h3, h4, q5, q6, h7]
                rw [he]
                clear he
                go_enter Try.func51, Try.ntmps51
                go_wp2_with (go_at_call 48; refine (within_any _ _ _ _).mono ?_; rintro e w' ⟨rfl, rfl⟩)
                go_ret
                exact ⟨rfl, ((Below.refl _ _).alloc (Nat.le_refl _) _).alloc (by simp) _⟩
              case pos =>
                have he : wdB years slopes vs.length ⟨price, first, last, age, village, adds⟩ = adds.all rgB := by simp [wdB, q1, h2, h3, h4, q5, q6, h7]
                rw [he]
                clear he
                have HA := Lib.hid (allRg_any adds rgB cp a ((w.alloc (.cells (pmC ⟨years, slopes, ws, wa, wc, ns, na, nc, vs, va, vc, ps, pa, pc⟩) 35)).alloc (.cells #[vi price, vi first, vi last, vi age, vi village, .slice a adds.length cp] 87)) hal (row_alloc (row_alloc har _) _) (fun c _ W _ => right_any c W))
                clear har
                go_enter Try.func51, Try.ntmps51
                go_wp2_with (first | (go_at_call 48; refine (within_any _ _ _ _).mono ?_; rintro e w' ⟨rfl, rfl⟩) | (go_at_call 74; refine (HA.out).mono ?_; rintro e w' ⟨rfl, hb⟩))
                go_ret
                exact ⟨rfl, below_next (((Below.refl _ _).alloc (Nat.le_refl _) _).alloc (by simp) _) hb⟩

/-- The error of a project. -/
def faultN (p : Pj) : Int :=
  if 8 < p.works.length ∨ 20 < p.needs.length ∨ 6 < p.villages.length then 3
  else if inB p.years 1 5 && inB p.slopes 1 6 && decide ((p.purses.length : Int) = p.years) && p.purses.all (fun n => inB n 0 1000000) && p.works.all (wdB p.years p.slopes p.villages.length) && p.needs.all (ndB p.years p.slopes) then 0 else 1
theorem all_map {α β : Type} (f : α → β) (p : β → Bool) (l : List α) : (l.map f).all p = l.all fun x => p (f x) := by rw [List.all_map]; rfl
/-- No list of a project is very long. -/
structure PmFew (p : Pm) : Prop where
  ws : p.ws.length ≤ 1000
  ad : ∀ x ∈ p.ws, x.d.adds.length ≤ 1000
  ns : p.ns.length ≤ 1000
  vs : p.vs.length ≤ 1000
  ps : p.ps.length ≤ 1000
set_option maxRecDepth 100000 in
set_option maxHeartbeats 4000000 in
theorem checkProject_any (p : Pm) (w : World) (hok : PmOk p w) (few : PmFew p) :
    Calls Try.prog 18 #[pmV p] w fun e w' => e = .returned (.int .i64 (faultN p.pj)) ∧ newer w w' := by
  have HA1 : Hid (∀ W, newer w W → Calls Try.prog 49 #[.slice p.pa p.ps.length p.pc, .func (.func 47) #[] #[]] W fun e w' => e = .returned (.bool (p.ps.all fun n => inB n 0 1000000)) ∧ newer W w') :=
    Lib.hid fun W hW => allPurse_any p.ps _ p.pc p.pa W few.ps (hok.next hW).ps fun c _ W _ => purse_any c W
  have HA2 : Hid (∀ W, newer w W → Calls Try.prog 50 #[.slice p.wa p.ws.length p.wc, .func (.func 51) #[pmV p] #[]] W fun e w' => e = .returned (.bool (p.ws.all fun x => wdB p.years p.slopes p.vs.length x.d)) ∧ newer W w') :=
    Lib.hid fun W hW => allWk_any p.ws _ p.wc p.wa W (pmV p) few.ws (hok.next hW).ws fun c hc W' hW' => work_any p c W' few.vs (few.ad c hc) (((hok.next hW).next hW').ad c hc)
  have HA3 : Hid (0 ≤ p.slopes ∧ p.slopes ≤ 1000 → 0 ≤ p.years ∧ p.years ≤ 1000 → ∀ W, newer w W → Calls Try.prog 52 #[.slice p.na p.ns.length p.nc, .func (.func 53) #[pmV p] #[]] W fun e w' => e = .returned (.bool (p.ns.all (ndB p.years p.slopes))) ∧ newer W w') :=
    Lib.hid fun h1 h2 W hW => allNd_any p.ns _ p.nc p.na W (pmV p) few.ns (hok.next hW).ns fun c _ W' _ => need_any p c W' h1 h2
  clear hok few
  obtain ⟨years, slopes, ws, wa, wc, ns, na, nc, vs, va, vc, ps, pa, pc⟩ := p
  dsimp only [pmV, pmC] at HA1 HA2 HA3 ⊢
  have hpj : Pm.pj ⟨years, slopes, ws, wa, wc, ns, na, nc, vs, va, vc, ps, pa, pc⟩ = ⟨years, slopes, ws.map (·.d), ns, vs, ps⟩ := rfl
  rw [hpj]
  clear hpj
  have hF : faultN ⟨years, slopes, ws.map (·.d), ns, vs, ps⟩ = if 8 < ws.length ∨ 20 < ns.length ∨ 6 < vs.length then 3 else if inB years 1 5 && inB slopes 1 6 && decide ((ps.length : Int) = years) && ps.all (fun n => inB n 0 1000000) && ws.all (fun x => wdB years slopes vs.length x.d) && ns.all (ndB years slopes) then 0 else 1 := by
    unfold faultN
    simp only [List.length_map, all_map]
  rw [hF]
  clear hF
  generalize (ps.all fun n => inB n 0 1000000) = b7 at HA1 ⊢
  generalize (ws.all fun x => wdB years slopes vs.length x.d) = b8 at HA2 ⊢
  generalize ns.all (ndB years slopes) = b9 at HA3 ⊢
  by_cases h1 : ws.length ≤ 8
  case neg =>
    rw [if_pos (by omega)]
    go_enter Try.func18, Try.ntmps18
    go_wp2_with fail
    go_ret
    exact ⟨rfl, newer_allocH w _⟩
  case pos =>
    by_cases h2 : ns.length ≤ 20
    case neg =>
      rw [if_pos (by omega)]
      go_enter Try.func18, Try.ntmps18
      go_wp2_with fail
      go_ret
      exact ⟨rfl, newer_allocH w _⟩
    case pos =>
      by_cases h3 : vs.length ≤ 6
      case neg =>
        rw [if_pos (by omega)]
        go_enter Try.func18, Try.ntmps18
        go_wp2_with fail
        go_ret
        exact ⟨rfl, newer_allocH w _⟩
      case pos =>
        cases q4 : inB years 1 5
        case false =>
          rw [if_neg (by omega)]
          rw [if_neg (by simp)]
          go_enter Try.func18, Try.ntmps18
          go_wp2_with (first | (go_at_call 48; refine (within_any _ _ _ _).mono ?_; rintro e w' ⟨rfl, rfl⟩))
          go_ret
          exact ⟨rfl, newer_allocH w _⟩
        case true =>
          cases q5 : inB slopes 1 6
          case false =>
            rw [if_neg (by omega)]
            rw [if_neg (by simp)]
            go_enter Try.func18, Try.ntmps18
            go_wp2_with (first | (go_at_call 48; refine (within_any _ _ _ _).mono ?_; rintro e w' ⟨rfl, rfl⟩))
            go_ret
            exact ⟨rfl, newer_allocH w _⟩
          case true =>
            by_cases h6 : (ps.length : Int) = years
            case neg =>
              rw [if_neg (by omega)]
              rw [if_neg (by simp [h6])]
              go_enter Try.func18, Try.ntmps18
              go_wp2_with (first | (go_at_call 48; refine (within_any _ _ _ _).mono ?_; rintro e w' ⟨rfl, rfl⟩))
              go_ret
              exact ⟨rfl, newer_allocH w _⟩
            case pos =>
              cases b7
              case false =>
                rw [if_neg (by omega)]
                rw [if_neg (by simp)]
                go_enter Try.func18, Try.ntmps18
                go_wp2_with (first | (go_at_call 48; refine (within_any _ _ _ _).mono ?_; rintro e w' ⟨rfl, rfl⟩) | (go_at_call 49; refine (HA1.out _ (newer_allocH w _)).mono ?_; rintro e w1 ⟨rfl, hb1⟩; have HW := (Whole.made w 35 #[vi years, vi slopes, .slice wa ws.length wc, .slice na ns.length nc, .slice va vs.length vc, .slice pa ps.length pc]).below hb1 (by simp); have x0 := HW.at 0 (v := vi years) rfl; have x1 := HW.at 1 (v := vi slopes) rfl; have x2 := HW.at 2 (v := .slice wa ws.length wc) rfl; have x3 := HW.at 3 (v := .slice na ns.length nc) rfl; have x4 := HW.at 4 (v := .slice va vs.length vc) rfl; have x5 := HW.at 5 (v := .slice pa ps.length pc) rfl; have HW1 := Lib.hid HW; clear HW; have hb1 := newer_trans (newer_allocH w _) hb1))
                go_ret
                exact ⟨rfl, hb1⟩
              case true =>
                cases b8
                case false =>
                  rw [if_neg (by omega)]
                  rw [if_neg (by simp)]
                  have hsl : 0 ≤ slopes ∧ slopes ≤ 1000 := by simp [inB] at q5; omega
                  have hyr : 0 ≤ years ∧ years ≤ 1000 := by simp [inB] at q4; omega
                  go_enter Try.func18, Try.ntmps18
                  go_wp2_with (first | (go_at_call 48; refine (within_any _ _ _ _).mono ?_; rintro e w' ⟨rfl, rfl⟩) | (go_at_call 49; refine (HA1.out _ (newer_allocH w _)).mono ?_; rintro e w1 ⟨rfl, hb1⟩; have HW := (Whole.made w 35 #[vi years, vi slopes, .slice wa ws.length wc, .slice na ns.length nc, .slice va vs.length vc, .slice pa ps.length pc]).below hb1 (by simp); have x0 := HW.at 0 (v := vi years) rfl; have x1 := HW.at 1 (v := vi slopes) rfl; have x2 := HW.at 2 (v := .slice wa ws.length wc) rfl; have x3 := HW.at 3 (v := .slice na ns.length nc) rfl; have x4 := HW.at 4 (v := .slice va vs.length vc) rfl; have x5 := HW.at 5 (v := .slice pa ps.length pc) rfl; have HW1 := Lib.hid HW; clear HW; have hb1 := newer_trans (newer_allocH w _) hb1) | (go_at_call 50; refine (HA2.out _ hb1).mono ?_; rintro e w2 ⟨rfl, hb2⟩; have HW := (HW1.out).below hb2 (HW1.out).lt; have y0 := HW.at 0 (v := vi years) rfl; have y1 := HW.at 1 (v := vi slopes) rfl; have y2 := HW.at 2 (v := .slice wa ws.length wc) rfl; have y3 := HW.at 3 (v := .slice na ns.length nc) rfl; have y4 := HW.at 4 (v := .slice va vs.length vc) rfl; have y5 := HW.at 5 (v := .slice pa ps.length pc) rfl; clear HW; have hb2 := newer_trans hb1 hb2; clear hb1))
                  go_ret
                  exact ⟨rfl, hb2⟩
                case true =>
                  cases b9
                  case false =>
                    rw [if_neg (by omega)]
                    rw [if_neg (by simp)]
                    have hsl : 0 ≤ slopes ∧ slopes ≤ 1000 := by simp [inB] at q5; omega
                    have hyr : 0 ≤ years ∧ years ≤ 1000 := by simp [inB] at q4; omega
                    go_enter Try.func18, Try.ntmps18
                    go_wp2_with (first | (go_at_call 48; refine (within_any _ _ _ _).mono ?_; rintro e w' ⟨rfl, rfl⟩) | (go_at_call 49; refine (HA1.out _ (newer_allocH w _)).mono ?_; rintro e w1 ⟨rfl, hb1⟩; have HW := (Whole.made w 35 #[vi years, vi slopes, .slice wa ws.length wc, .slice na ns.length nc, .slice va vs.length vc, .slice pa ps.length pc]).below hb1 (by simp); have x0 := HW.at 0 (v := vi years) rfl; have x1 := HW.at 1 (v := vi slopes) rfl; have x2 := HW.at 2 (v := .slice wa ws.length wc) rfl; have x3 := HW.at 3 (v := .slice na ns.length nc) rfl; have x4 := HW.at 4 (v := .slice va vs.length vc) rfl; have x5 := HW.at 5 (v := .slice pa ps.length pc) rfl; have HW1 := Lib.hid HW; clear HW; have hb1 := newer_trans (newer_allocH w _) hb1) | (go_at_call 50; refine (HA2.out _ hb1).mono ?_; rintro e w2 ⟨rfl, hb2⟩; have HW := (HW1.out).below hb2 (HW1.out).lt; have y0 := HW.at 0 (v := vi years) rfl; have y1 := HW.at 1 (v := vi slopes) rfl; have y2 := HW.at 2 (v := .slice wa ws.length wc) rfl; have y3 := HW.at 3 (v := .slice na ns.length nc) rfl; have y4 := HW.at 4 (v := .slice va vs.length vc) rfl; have y5 := HW.at 5 (v := .slice pa ps.length pc) rfl; clear HW; have hb2 := newer_trans hb1 hb2; clear hb1) | (go_at_call 52; refine (HA3.out hsl hyr _ hb2).mono ?_; rintro e w3 ⟨rfl, hb3⟩; have hb3 := newer_trans hb2 hb3; clear hb2))
                    go_ret
                    exact ⟨rfl, hb3⟩
                  case true =>
                    rw [if_neg (by omega)]
                    rw [if_pos (by simp [h6])]
                    have hsl : 0 ≤ slopes ∧ slopes ≤ 1000 := by simp [inB] at q5; omega
                    have hyr : 0 ≤ years ∧ years ≤ 1000 := by simp [inB] at q4; omega
                    go_enter Try.func18, Try.ntmps18
                    go_wp2_with (first | (go_at_call 48; refine (within_any _ _ _ _).mono ?_; rintro e w' ⟨rfl, rfl⟩) | (go_at_call 49; refine (HA1.out _ (newer_allocH w _)).mono ?_; rintro e w1 ⟨rfl, hb1⟩; have HW := (Whole.made w 35 #[vi years, vi slopes, .slice wa ws.length wc, .slice na ns.length nc, .slice va vs.length vc, .slice pa ps.length pc]).below hb1 (by simp); have x0 := HW.at 0 (v := vi years) rfl; have x1 := HW.at 1 (v := vi slopes) rfl; have x2 := HW.at 2 (v := .slice wa ws.length wc) rfl; have x3 := HW.at 3 (v := .slice na ns.length nc) rfl; have x4 := HW.at 4 (v := .slice va vs.length vc) rfl; have x5 := HW.at 5 (v := .slice pa ps.length pc) rfl; have HW1 := Lib.hid HW; clear HW; have hb1 := newer_trans (newer_allocH w _) hb1) | (go_at_call 50; refine (HA2.out _ hb1).mono ?_; rintro e w2 ⟨rfl, hb2⟩; have HW := (HW1.out).below hb2 (HW1.out).lt; have y0 := HW.at 0 (v := vi years) rfl; have y1 := HW.at 1 (v := vi slopes) rfl; have y2 := HW.at 2 (v := .slice wa ws.length wc) rfl; have y3 := HW.at 3 (v := .slice na ns.length nc) rfl; have y4 := HW.at 4 (v := .slice va vs.length vc) rfl; have y5 := HW.at 5 (v := .slice pa ps.length pc) rfl; clear HW; have hb2 := newer_trans hb1 hb2; clear hb1) | (go_at_call 52; refine (HA3.out hsl hyr _ hb2).mono ?_; rintro e w3 ⟨rfl, hb3⟩; have hb3 := newer_trans hb2 hb3; clear hb2))
                    go_ret
                    exact ⟨rfl, hb3⟩
end Go.Proofs.Ytpnpnfjhjjdmgaa
