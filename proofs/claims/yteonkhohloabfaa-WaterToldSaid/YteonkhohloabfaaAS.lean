/- Run: its errors. -/
import Derived.Test.YteonkhohloabfaaAR
namespace Go.Proofs.Yteonkhohloabfaa
open Go.RowKit Go.Shelf

abbrev truC (snow soak : Int) (L : Option Addr) (ln lp : Nat) (R : Option Addr) (rl rp : Nat) : Array Value := #[vi snow, vi soak, .slice L ln lp, .slice R rl rp]

set_option maxRecDepth 100000 in
set_option maxHeartbeats 1000000 in
theorem run_err1 (g : Gnd) (A : Option Addr) (ap : Nat) (days : List Day) (D : Option Addr) (dp : Nat) (snow soak : Int) (L : Option Addr) (ln lp : Nat) (R : Option Addr) (rl rp : Nat) (w : World) (hn : g.cells.length ≤ 1000) (hm : days.length ≤ 1000)
    (hc : Row cellL 7 w w.heap.size A g.cells) (hd : Row dayL 3 w w.heap.size D days) (hf : faultN g days ≠ 0) :
    Calls Try.prog 32 #[gndV A ap g, .slice D days.length dp, truthV snow soak L ln lp R rl rp] w fun e w' => e = .returned (.tuple #[.slice none 0 0, .slice none 0 0, vi 0, vi (faultN g days)]) ∧ Below w.heap.size w w' := by
  have hck := check_any g ap A days dp D _ hn hm (row_alloc (row_alloc (row_alloc (row_alloc hc (.cells (gndC A ap g) 38)) (.cells (truC snow soak L ln lp R rl rp) 63)) (.cells #[.slice none 0 0] 60)) (.cells #[.slice none 0 0] 43)) (row_alloc (row_alloc (row_alloc (row_alloc hd _) _) _) _)
  have HK := Lib.hid hck
  have hfb : (faultN g days != 0) = true := by simpa using hf
  clear hck hf hc hd
  go_enter Try.func32, Try.ntmps32
  go_wp2_with (go_at_call 51; refine (HK.out).mono ?_; rintro e w1 ⟨rfl, hb⟩; have HA := Lib.hid ((RnA.made w (gndC A ap g) (truC snow soak L ln lp R rl rp)).later hb); have x1 := HA.out.l1.at 0 rfl; have x2 := HA.out.l2.at 0 rfl; have y1 := HA.out.l1.free 0; have y2 := HA.out.l2.free 0)
  have ha := HA.out
  have b1 := ((ha.l1.set 0 (.slice none 0 0)).far (p := ⟨w.heap.size + 1 + 1 + 1, 0, none⟩) (by dsimp only; omega) (.slice none 0 0)).at 0 rfl
  have b2 := ((ha.l2.far (p := ⟨w.heap.size + 1 + 1, 0, none⟩) (by dsimp only; omega) (.slice none 0 0)).set 0 (.slice none 0 0)).at 0 rfl
  exact bodyPost_ret (v := .tuple #[.slice none 0 0, .slice none 0 0, vi 0, .int .i64 (faultN g days)]) (by simp [results, Try.results32, go_sem, b1, b2]) rfl ⟨rfl, (ha.below.setCell (p := ⟨w.heap.size + 1 + 1, 0, none⟩) (by dsimp only; omega) _).setCell (p := ⟨w.heap.size + 1 + 1 + 1, 0, none⟩) (by dsimp only; omega) _⟩

set_option maxRecDepth 100000 in
set_option maxHeartbeats 1000000 in
theorem run_err2 (g : Gnd) (A : Option Addr) (ap : Nat) (days : List Day) (D : Option Addr) (dp : Nat) (snow soak : Int) (lv : List Int) (L : Option Addr) (lp : Nat) (rn : List Int) (R : Option Addr) (rp : Nat) (w : World) (hn : g.cells.length ≤ 1000) (hm : days.length ≤ 1000) (hl : lv.length ≤ 1000) (hr : rn.length ≤ 1000)
    (hc : Row cellL 7 w w.heap.size A g.cells) (hd : Row dayL 3 w w.heap.size D days) (hL : Row intL 1 w w.heap.size L lv) (hR : Row intL 1 w w.heap.size R rn) (hf : faultN g days = 0) (hfit : fitsB g days snow soak lv rn = false) :
    Calls Try.prog 32 #[gndV A ap g, .slice D days.length dp, truthV snow soak L lv.length lp R rn.length rp] w fun e w' => e = .returned (.tuple #[.slice none 0 0, .slice none 0 0, vi 0, .int .i64 9]) ∧ Below w.heap.size w w' := by
  have hck := check_any g ap A days dp D _ hn hm (row_alloc (row_alloc (row_alloc (row_alloc hc (.cells (gndC A ap g) 38)) (.cells (truC snow soak L lv.length lp R rn.length rp) 63)) (.cells #[.slice none 0 0] 60)) (.cells #[.slice none 0 0] 43)) (row_alloc (row_alloc (row_alloc (row_alloc hd _) _) _) _)
  rw [hf] at hck
  have HK := Lib.hid hck
  have HC := Lib.hid hc
  have HD := Lib.hid hd
  have HL := Lib.hid hL
  have HR := Lib.hid hR
  have HF := Lib.hid hfit
  clear hck hf hc hd hL hR hfit
  go_enter Try.func32, Try.ntmps32
  go_wp2_with (first | (go_at_call 51; refine (HK.out).mono ?_; rintro e w1 ⟨rfl, hb⟩; have HA := Lib.hid ((RnA.made w (gndC A ap g) (truC snow soak L lv.length lp R rn.length rp)).later hb); clear hb; have g0 := HA.out.gb.at 0 rfl; have g1 := HA.out.gb.at 1 rfl; have g2 := HA.out.gb.at 2 rfl; have g3 := HA.out.gb.at 3 rfl; have g4 := HA.out.gb.at 4 rfl; have g5 := HA.out.gb.at 5 rfl; have t0 := HA.out.tb.at 0 rfl; have t1 := HA.out.tb.at 1 rfl; have t2 := HA.out.tb.at 2 rfl; have t3 := HA.out.tb.at 3 rfl) | (go_at_call 67; refine (has_any67 g A ap days D dp snow soak lv L lp rn R rp _ hn hm hl hr ((HC.out.below HA.out.below).more HA.out.below.size) ((HD.out.below HA.out.below).more HA.out.below.size) ((HL.out.below HA.out.below).more HA.out.below.size) ((HR.out.below HA.out.below).more HA.out.below.size)).mono ?_; rw [HF.out]; rintro e w2 ⟨rfl, hb⟩; have HB := Lib.hid (HA.out.later hb); have x1 := HB.out.l1.at 0 rfl; have x2 := HB.out.l2.at 0 rfl; have y1 := HB.out.l1.free 0; have y2 := HB.out.l2.free 0; clear hb))
  have ha := HB.out
  have b1 := ((ha.l1.set 0 (.slice none 0 0)).far (p := ⟨w.heap.size + 1 + 1 + 1, 0, none⟩) (by dsimp only; omega) (.slice none 0 0)).at 0 rfl
  have b2 := ((ha.l2.far (p := ⟨w.heap.size + 1 + 1, 0, none⟩) (by dsimp only; omega) (.slice none 0 0)).set 0 (.slice none 0 0)).at 0 rfl
  exact bodyPost_ret (v := .tuple #[.slice none 0 0, .slice none 0 0, vi 0, .int .i64 9]) (by simp [results, Try.results32, go_sem, b1, b2]) rfl ⟨rfl, (ha.below.setCell (p := ⟨w.heap.size + 1 + 1, 0, none⟩) (by dsimp only; omega) _).setCell (p := ⟨w.heap.size + 1 + 1 + 1, 0, none⟩) (by dsimp only; omega) _⟩
end Go.Proofs.Yteonkhohloabfaa
