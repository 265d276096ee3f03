/- The reference of the water layer: After, on whatever days; First; asked. -/
import Derived.Test.YteonkhohloabfaaY
import Derived.Test.YteonkhohloabfaaAA
import Derived.Test.YteonkhohloabfaaV
namespace Go.Proofs.Yteonkhohloabfaa
open Go.RowKit

theorem refEnds (hi : Bool) (g : Gnd) (A : Option Addr) (ap : Nat) (days : List Day) (D : Option Addr) (dp : Nat) (w : World) (hn : g.cells.length ≤ 1000) (hm : days.length ≤ 1000) (hc : Row cellL 7 w w.heap.size A g.cells) (hd : Row dayL 3 w w.heap.size D days) :
    Calls Try.prog 23 #[gndV A ap g, .slice D days.length dp, .bool hi] w (ended w hi g days) := by
  cases hi
  · exact refEnds_lo g A ap days D dp w hn hm hc hd
  · exact refEnds_hi g A ap days D dp w hn hm hc hd

/-- After: the state after the first days. -/
theorem refAfter (g : Gnd) (A : Option Addr) (cp : Nat) (days : List Day) (D : Option Addr) (dp : Nat) (snow soak : Int) (levels : List Int) (L : Option Addr) (lp : Nat) (rain : List Int) (R : Option Addr) (rp : Nat)
    (ok : WayOk g.cells g.melt soak days rain ⟨iAt levels, snow, 0⟩) (h1 : 1 ≤ g.cells.length) (hl : levels.length = g.cells.length) :
    ∀ (k : Nat), k ≤ days.length → ∀ w, Row cellL 7 w w.heap.size A g.cells → Row dayL 3 w w.heap.size D days → Row intL 1 w w.heap.size L levels → Row intL 1 w w.heap.size R rain →
      Calls Try.prog 22 #[gndV A cp g, .slice D days.length dp, truthV snow soak L levels.length lp R rain.length rp, .int .i64 (k : Int)] w (aftered w g.cells.length (stAt g.cells g.melt soak days rain ⟨iAt levels, snow, 0⟩ k))
  | 0, _, w, _, _, hL, _ => by
    have h8 := ok.few
    have := refAfter_zero (gndV A cp g) (.slice D days.length dp) (gndC A cp g) snow soak levels L lp R rain.length rp w rfl (by omega) (by omega) hL
    rw [← hl]
    exact this
  | k + 1, hk, w, hc, hd, hL, hR => by
    have hst := stAt_ok ok k (by omega)
    have hrr := ok.rains
    have hmm := ok.many
    have := refAfter_succ g A cp days D dp snow soak levels L lp rain R rp (stAt g.cells g.melt soak days rain ⟨iAt levels, snow, 0⟩ k) k w h1 ok.few ok.cells ok.melt0 ok.melt1 ok.soak0 ok.soak1 (by omega) hmm (by omega) (ok.ds k (by omega)) (ok.rs k (by omega)).1 (ok.rs k (by omega)).2 hst.lv hst.snow0 (by have := hst.snow1; omega) hc hd hR
      (fun W hW => refAfter g A cp days D dp snow soak levels L lp rain R rp ok h1 hl k (by omega) W ((hc.below hW).more hW.size) ((hd.below hW).more hW.size) ((hL.below hW).more hW.size) ((hR.below hW).more hW.size))
    rw [show ((k + 1 : Nat) : Int) = (k : Int) + 1 by omega]
    exact this

theorem cells_of_row {w : World} {B : Nat} {A : Option Addr} {n : Nat} {f : Nat → Int} (h : Row intL 1 w B A ((List.range n).map f)) {i : Nat} (hi : i < n) : ∃ b off, A = some ⟨b, off, none⟩ ∧ b < B ∧ w.cell? ⟨b, off + i, none⟩ = some (.int .i64 (f i)) :=
  row1 h (by rw [List.getElem?_map, List.getElem?_range hi]; rfl)

set_option maxRecDepth 100000 in
set_option maxHeartbeats 2000000 in
theorem refFirst (g : Gnd) (A : Option Addr) (cp : Nat) (days : List Day) (D : Option Addr) (dp : Nat) (snow soak : Int) (levels : List Int) (L : Option Addr) (lp : Nat) (rain : List Int) (R : Option Addr) (rp : Nat) (cell : Nat) (level : Int)
    (ok : WayOk g.cells g.melt soak days rain ⟨iAt levels, snow, 0⟩) (h1 : 1 ≤ g.cells.length) (hl : levels.length = g.cells.length) (hcell : cell < g.cells.length) (w : World)
    (hc : Row cellL 7 w w.heap.size A g.cells) (hd : Row dayL 3 w w.heap.size D days) (hL : Row intL 1 w w.heap.size L levels) (hR : Row intL 1 w w.heap.size R rain) :
    Calls Try.prog 30 #[gndV A cp g, .slice D days.length dp, truthV snow soak L levels.length lp R rain.length rp, .int .i64 cell, .int .i64 level] w
      fun e w' => e = .returned (.int .i64 (firstD days.length fun k => decide (level ≤ (stAt g.cells g.melt soak days rain ⟨iAt levels, snow, 0⟩ (k + 1)).f cell))) ∧ Below w.heap.size w w' := by
  have hmm := ok.many
  have haf : ∀ (k : Nat) W, k + 1 ≤ days.length → Below w.heap.size w W → Calls Try.prog 22 #[gndV A cp g, .slice D days.length dp, truthV snow soak L levels.length lp R rain.length rp, .int .i64 ((k : Int) + 1)] W (aftered W g.cells.length (stAt g.cells g.melt soak days rain ⟨iAt levels, snow, 0⟩ (k + 1))) := by
    intro k W hk hW
    have := refAfter g A cp days D dp snow soak levels L lp rain R rp ok h1 hl (k + 1) hk W ((hc.below hW).more hW.size) ((hd.below hW).more hW.size) ((hL.below hW).more hW.size) ((hR.below hW).more hW.size)
    rw [show ((k + 1 : Nat) : Int) = (k : Int) + 1 by omega] at this
    exact this
  have HAF := Lib.hid haf
  obtain ⟨p, hp⟩ : ∃ p : Nat → Bool, p = fun k => decide (level ≤ (stAt g.cells g.melt soak days rain ⟨iAt levels, snow, 0⟩ (k + 1)).f cell) := ⟨_, rfl⟩
  rw [← hp]
  have HP := Lib.hid hp
  clear haf hp ok hc hd hL hR hl
  obtain ⟨m, hm⟩ : ∃ m, m = days.length := ⟨_, rfl⟩
  rw [← hm] at HAF hmm ⊢
  clear hm
  go_enter Try.func30, Try.ntmps30
  go_wp2_with fail
  have HB : Hid (Below w.heap.size w ((w.alloc (.cells (gndC A cp g) 26)).alloc (.cells #[vi snow, vi soak, .slice L levels.length lp, .slice R rain.length rp] 47)) ∧ Whole ((w.alloc (.cells (gndC A cp g) 26)).alloc (.cells #[vi snow, vi soak, .slice L levels.length lp, .slice R rain.length rp] 47)) w.heap.size 26 (gndC A cp g) ∧ Whole ((w.alloc (.cells (gndC A cp g) 26)).alloc (.cells #[vi snow, vi soak, .slice L levels.length lp, .slice R rain.length rp] 47)) (w.heap.size + 1) 47 #[vi snow, vi soak, .slice L levels.length lp, .slice R rain.length rp]) := by
    refine ⟨((Below.refl _ _).alloc (Nat.le_refl _) _).alloc (by simp) _, (Whole.made w 26 _).alloc _, ?_⟩
    have := Whole.made (w.alloc (.cells (gndC A cp g) 26)) 47 #[vi snow, vi soak, .slice L levels.length lp, .slice R rain.length rp]
    rw [World.size_alloc] at this
    exact this
  go_loopw [11] (fun s11 wr => ∃ k : Nat, k ≤ m ∧ s11 = .int .i64 k ∧ (Below w.heap.size w wr ∧ Whole wr w.heap.size 26 (gndC A cp g) ∧ Whole wr (w.heap.size + 1) 47 #[vi snow, vi soak, .slice L levels.length lp, .slice R rain.length rp]) ∧ early p (List.range m) k) (fun s11 _ => m - (intOf s11).toNat)
  case atStart => exact ⟨0, Nat.zero_le _, rfl, HB.out, early_zero _ _⟩
  case round =>
    obtain ⟨k, hk, rfl, ⟨hbw, hgb, htb⟩, he⟩ := hrel
    clear HB
    have HE := Lib.hid he
    clear he
    by_cases hlt : k < m
    · have g0 := hgb.at 0 (v := .slice A g.cells.length cp) rfl
      have g1 := hgb.at 1 (v := vi g.slo) rfl
      have g2 := hgb.at 2 (v := vi g.shi) rfl
      have g3 := hgb.at 3 (v := vi g.klo) rfl
      have g4 := hgb.at 4 (v := vi g.khi) rfl
      have g5 := hgb.at 5 (v := vi g.melt) rfl
      have t0 := htb.at 0 (v := vi snow) rfl
      have t1 := htb.at 1 (v := vi soak) rfl
      have t2 := htb.at 2 (v := .slice L levels.length lp) rfl
      have t3 := htb.at 3 (v := .slice R rain.length rp) rfl
      have HC := Lib.hid (HAF.out k _ hlt hbw)
      have HG := Lib.hid (And.intro hgb htb)
      clear hgb htb
      go_wp2_with fail
      refine (HC.out).mono ?_
      rintro e w1 ⟨A1, c1, rfl, hrow, hb⟩
      obtain ⟨lb, lo, rfl, hlb, hx⟩ := cells_of_row hrow hcell
      have hci : (cell : Int) < g.cells.length := by omega
      have HX : Hid (Below w.heap.size w w1 ∧ Whole w1 w.heap.size 26 (gndC A cp g) ∧ Whole w1 (w.heap.size + 1) 47 #[vi snow, vi soak, .slice L levels.length lp, .slice R rain.length rp]) := ⟨below_next hbw hb, (HG.out.1).below hb (HG.out.1).lt, (HG.out.2).below hb (HG.out.2).lt⟩
      clear hrow hb HG HC g0 g1 g2 g3 g4 g5 t0 t1 t2 t3
      by_cases hle : level ≤ (stAt g.cells g.melt soak days rain ⟨iAt levels, snow, 0⟩ (k + 1)).f cell
      · have HF := Lib.hid (show firstD m p = (k : Int) from idx_here _ _ k k (by rw [List.getElem?_range hlt]) (by rw [HP.out]; simpa using hle) HE.out)
        go_wp2_with fail
        go_ret
        exact ⟨ret_int HF.out.symm, HX.out.1⟩
      · have HF := Lib.hid (show early p (List.range m) (k + 1) from early_succ HE.out (by rw [List.getElem?_range hlt]) (by rw [HP.out]; simpa using hle))
        go_wp2_with fail
        go_roundw
        case rel => exact ⟨k + 1, by omega, by go_num, HX.out, HF.out⟩
        case measure => simp [intOf]; omega
    · have hkm : k = m := by omega
      subst hkm
      have HF := Lib.hid (show firstD k p = -1 from idx_none _ _ (by rw [List.length_range]; exact HE.out))
      have HX := Lib.hid hbw
      clear hgb htb
      go_wp2_with fail
      go_ret
      exact ⟨ret_int HF.out.symm, HX.out⟩
end Go.Proofs.Yteonkhohloabfaa
