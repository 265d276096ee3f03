/- The errors of Levels; what is asked of a ground; the search for the least number. -/
import Derived.Test.YteonkhohloabfaaR
namespace Go.Proofs.Yteonkhohloabfaa
open Go.RowKit

theorem row_alloc {α : Type} {enc : α → List Value} {s : Nat} {w : World} {A : Option Addr} {l : List α} (h : Row enc s w w.heap.size A l) (o : Obj) : Row enc s (w.alloc o) (w.alloc o).heap.size A l :=
  (h.below ((Below.refl _ _).alloc (Nat.le_refl _) o)).more (by simp)

set_option maxRecDepth 100000 in
set_option maxHeartbeats 1000000 in
theorem levels_err (g : Gnd) (A : Option Addr) (ap : Nat) (days : List Day) (D : Option Addr) (dp : Nat) (w : World) (hn : g.cells.length ≤ 1000) (hm : days.length ≤ 1000) (hc : Row cellL 7 w w.heap.size A g.cells) (hd : Row dayL 3 w w.heap.size D days) (hf : faultN g days ≠ 0) :
    Calls Try.prog 18 #[gndV A ap g, .slice D days.length dp] w fun e w' => e = .returned (.tuple #[.slice none 0 0, .slice none 0 0, .int .i64 (faultN g days)]) ∧ Below w.heap.size w w' := by
  have hck := check_any g ap A days dp D _ hn hm (row_alloc (row_alloc (row_alloc hc (.cells (gndC A ap g) 38)) (.cells #[.slice none 0 0] 30)) (.cells #[.slice none 0 0] 31)) (row_alloc (row_alloc (row_alloc hd _) _) _)
  have HK := Lib.hid hck
  have hfb : (faultN g days != 0) = true := by simpa using hf
  clear hck hf hc hd
  go_enter Try.func18, Try.ntmps18
  go_wp2_with (go_at_call 51; refine (HK.out).mono ?_; rintro e w1 ⟨rfl, hb⟩; have HA := Lib.hid ((LvA.made w (gndC A ap g)).later hb); have x1 := HA.out.l1.at 0 rfl; have x2 := HA.out.l2.at 0 rfl; have y1 := HA.out.l1.free 0; have y2 := HA.out.l2.free 0)
  have ha := HA.out
  have b1 := ((ha.l1.set 0 (.slice none 0 0)).far (p := ⟨w.heap.size + 1 + 1, 0, none⟩) (by dsimp only; omega) (.slice none 0 0)).at 0 rfl
  have b2 := ((ha.l2.far (p := ⟨w.heap.size + 1, 0, none⟩) (by dsimp only; omega) (.slice none 0 0)).set 0 (.slice none 0 0)).at 0 rfl
  exact bodyPost_ret (v := .tuple #[.slice none 0 0, .slice none 0 0, .int .i64 (faultN g days)]) (by simp [results, Try.results18, go_sem, b1, b2]) rfl ⟨rfl, (ha.below.setCell (p := ⟨w.heap.size + 1, 0, none⟩) (by dsimp only; omega) _).setCell (p := ⟨w.heap.size + 1 + 1, 0, none⟩) (by dsimp only; omega) _⟩

/-- The error of a ground that is asked about a cell's level. -/
def askedN (g : Gnd) (days : List Day) (cell level : Int) : Int :=
  if faultN g days = 0 then (if inB cell 0 ((g.cells.length : Int) - 1) = true then (if inB level 0 100000 = true then 0 else 2) else 2) else faultN g days

set_option maxRecDepth 100000 in
set_option maxHeartbeats 1000000 in
theorem asked_any (g : Gnd) (A : Option Addr) (ap : Nat) (days : List Day) (D : Option Addr) (dp : Nat) (cell level : Int) (w : World) (hn : g.cells.length ≤ 1000) (hm : days.length ≤ 1000) (hc : Row cellL 7 w w.heap.size A g.cells) (hd : Row dayL 3 w w.heap.size D days) :
    Calls Try.prog 59 #[gndV A ap g, .slice D days.length dp, .int .i64 cell, .int .i64 level] w fun e w' => e = .returned (.int .i64 (askedN g days cell level)) ∧ Below w.heap.size w w' := by
  have hck := check_any g ap A days dp D _ hn hm (row_alloc hc (.cells (gndC A ap g) 38)) (row_alloc hd _)
  have HK := Lib.hid hck
  clear hck hc hd
  unfold askedN
  by_cases hf : faultN g days = 0
  · rw [if_pos hf]
    rw [hf] at HK
    clear hf
    cases h1 : inB cell 0 ((g.cells.length : Int) - 1)
    case' true => cases h2 : inB level 0 100000
    all_goals
      (go_enter Try.func59, Try.ntmps59
       go_wp2_with (first | (go_at_call 51; refine (HK.out).mono ?_; rintro e w1 ⟨rfl, hb⟩; have hB := below_step ((Below.refl w.heap.size w).alloc (Nat.le_refl _) _) hb (by simp); have hg := ((Whole.made w 38 (gndC A ap g)).below hb (by simp)); have x1 := hg.at 0 (v := .slice A g.cells.length ap) rfl) | (go_at_call 64; refine (within_any _ _ _ _).mono ?_; rintro e w' ⟨rfl, rfl⟩))
       go_ret
       exact ⟨by simp, hB⟩)
  · rw [if_neg hf]
    have hfb : (faultN g days != 0) = true := by simpa using hf
    clear hf
    go_enter Try.func59, Try.ntmps59
    go_wp2_with (go_at_call 51; refine (HK.out).mono ?_; rintro e w1 ⟨rfl, hb⟩; have hB := below_step ((Below.refl w.heap.size w).alloc (Nat.le_refl _) _) hb (by simp))
    go_ret
    exact ⟨rfl, hB⟩

/-- The search halves: what holds below, and above. -/
structure Halved (p : Int → Bool) (a b low high : Int) : Prop where
  le1 : a ≤ low
  le2 : low ≤ high + 1
  le3 : high ≤ b
  lower : low = a ∨ p (low - 1) = false
  upper : high = b ∨ p (high + 1) = true

/-- What the search finds. -/
def lowestOut (p : Int → Bool) (a b : Int) (I : World → Prop) (e : Ending) (w' : World) : Prop := ∃ n, e = .returned (.int .i64 n) ∧ Halved p a b n (n - 1) ∧ I w'

set_option maxRecDepth 100000 in
set_option maxHeartbeats 1000000 in
theorem lowest60 (p : Int → Bool) (a b : Int) (x1 x2 x3 x4 x5 : Value) (I : World → Prop) (w : World) (ha : 0 ≤ a) (hab : a ≤ b + 1) (hb : b ≤ 1000000) (h0 : I w)
    (hp : ∀ n W, a ≤ n → n ≤ b → I W → Calls Try.prog 60 #[.int .i64 n, x1, x2, x3, x4, x5] W fun e W' => e = .returned (.bool (p n)) ∧ I W') :
    Calls Try.prog 62 #[.int .i64 a, .int .i64 b, .func (.func 60) #[] #[x1, x2, x3, x4, x5]] w (lowestOut p a b I) := by
  have HP := Lib.hid hp
  clear hp
  go_enter Try.func62, Try.ntmps62
  go_wp2
  go_loopw [0, 1, 7] (fun l h _ wr => ∃ low high : Int, l = .int .i64 low ∧ h = .int .i64 high ∧ Halved p a b low high ∧ I wr) (fun l h _ _ => (intOf h + 1 - intOf l).toNat)
  case atStart => exact ⟨a, b, rfl, rfl, ⟨Int.le_refl _, hab, Int.le_refl _, .inl rfl, .inl rfl⟩, h0⟩
  case round =>
    obtain ⟨low, high, rfl, rfl, hh, hI⟩ := hrel
    have l1 := hh.le1
    have l2 := hh.le2
    have l3 := hh.le3
    have HH := Lib.hid hh
    clear hh
    by_cases hlt : low ≤ high
    · have m1 : low ≤ (low + high) / 2 := by omega
      have m2 : (low + high) / 2 ≤ high := by omega
      have HC := Lib.hid (HP.out ((low + high) / 2) wr (by omega) (by omega) hI)
      cases hpm : p ((low + high) / 2)
      · rw [hpm] at HC
        go_wp2_with (go_at_call 60; refine (HC.out).mono ?_; rintro e w1 ⟨rfl, hI1⟩)
        go_roundw
        case rel => exact ⟨(low + high) / 2 + 1, high, rfl, rfl, ⟨by omega, by omega, l3, .inr (by rw [show (low + high) / 2 + 1 - 1 = (low + high) / 2 by omega]; exact hpm), HH.out.upper⟩, hI1⟩
        case measure => simp [intOf]; omega
      · rw [hpm] at HC
        go_wp2_with (go_at_call 60; refine (HC.out).mono ?_; rintro e w1 ⟨rfl, hI1⟩)
        go_roundw
        case rel => exact ⟨low, (low + high) / 2 - 1, rfl, rfl, ⟨l1, by omega, by omega, HH.out.lower, .inr (by rw [show (low + high) / 2 - 1 + 1 = (low + high) / 2 by omega]; exact hpm)⟩, hI1⟩
        case measure => simp [intOf]; omega
    · have e : high = low - 1 := by omega
      subst e
      go_wp2_with fail
      go_ret
      exact ⟨_, rfl, HH.out, hI⟩
end Go.Proofs.Yteonkhohloabfaa
