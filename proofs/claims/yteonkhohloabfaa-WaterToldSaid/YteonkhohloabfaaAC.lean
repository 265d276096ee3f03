/- The law's asked; the document's example ground and days. -/
import Derived.Test.YteonkhohloabfaaAB
namespace Go.Proofs.Yteonkhohloabfaa
open Go.RowKit

set_option maxRecDepth 100000 in
set_option maxHeartbeats 1000000 in
theorem lawAsked (g : Gnd) (A : Option Addr) (ap : Nat) (days : List Day) (D : Option Addr) (dp : Nat) (cell level : Int) (w : World) (hn : g.cells.length ≤ 1000) (hm : days.length ≤ 1000) (hc : Row cellL 7 w w.heap.size A g.cells) (hd : Row dayL 3 w w.heap.size D days) :
    Calls Try.prog 25 #[gndV A ap g, .slice D days.length dp, .int .i64 cell, .int .i64 level] w fun e w' => e = .returned (.int .i64 (askedN g days cell level)) ∧ Below w.heap.size w w' := by
  have hck := fault_any g ap A days dp D _ hn hm (row_alloc hc (.cells (gndC A ap g) 26)) (row_alloc hd _)
  have HK := Lib.hid hck
  clear hck hc hd
  unfold askedN
  by_cases hf : faultN g days = 0
  · rw [if_pos hf]
    rw [hf] at HK
    clear hf
    cases h1 : inB cell 0 ((g.cells.length : Int) - 1)
    case' true => cases h2 : inB level 0 100000
    all_goals
      (go_enter Try.func25, Try.ntmps25
       go_wp2_with (first | (go_at_call 21; refine (HK.out).mono ?_; rintro e w1 ⟨rfl, hb⟩; have hB := below_step ((Below.refl w.heap.size w).alloc (Nat.le_refl _) _) hb (by simp); have hg := ((Whole.made w 26 (gndC A ap g)).below hb (by simp)); have x1 := hg.at 0 (v := .slice A g.cells.length ap) rfl) | (go_at_call 27; refine (in_any _ _ _ _).mono ?_; rintro e w' ⟨rfl, rfl⟩))
       go_ret
       exact ⟨by simp, hB⟩)
  · rw [if_neg hf]
    have hfb : (faultN g days != 0) = true := by simpa using hf
    clear hf
    go_enter Try.func25, Try.ntmps25
    go_wp2_with (go_at_call 21; refine (HK.out).mono ?_; rintro e w1 ⟨rfl, hb⟩; have hB := below_step ((Below.refl w.heap.size w).alloc (Nat.le_refl _) _) hb (by simp))
    go_ret
    exact ⟨rfl, hB⟩

theorem flat_at {α : Type} {enc : α → List Value} {s : Nat} (he : ∀ x, (enc x).length = s) : ∀ (l : List α) (k : Nat) (x : α), l[k]? = some x → ∀ (j : Nat) (v : Value), (enc x)[j]? = some v → (l.flatMap enc)[k * s + j]? = some v
  | [], k, x, hk, _, _, _ => by simp at hk
  | y :: l, 0, x, hk, j, v, hv => by
    simp at hk; subst hk
    have hj : j < s := by rw [← he y]; exact (List.getElem?_eq_some_iff.1 hv).1
    simp only [List.flatMap_cons, Nat.zero_mul, Nat.zero_add]
    rw [List.getElem?_append_left (by rw [he]; exact hj)]; exact hv
  | y :: l, k + 1, x, hk, j, v, hv => by
    simp only [List.getElem?_cons_succ] at hk
    simp only [List.flatMap_cons]
    rw [List.getElem?_append_right (by rw [he]; simp [Nat.add_mul]; omega), he]
    rw [show (k + 1) * s + j - s = k * s + j by simp [Nat.add_mul]; omega]
    exact flat_at he l k x hk j v hv
theorem row_of_whole {α : Type} {enc : α → List Value} {s : Nat} (he : ∀ x, (enc x).length = s) {W : World} {b : Nat} {t : TypeId} {cs : Array Value} {l : List α} (h : Whole W b t cs) (hcs : cs.toList = l.flatMap enc) : Row enc s W W.heap.size (some ⟨b, 0, none⟩) l := fun _ => by
  refine ⟨b, 0, rfl, h.lt, fun k x hk j v hv => ?_⟩
  have := flat_at he l k x hk j v hv
  rw [← hcs] at this
  rw [Nat.zero_add]
  exact h.at _ (by simpa using this)

/-! ## The example -/
def bankG : Gnd := ⟨[⟨100, 120, 400, 50, 200, 1, 0⟩, ⟨60, 60, 150, 0, 500, -1, 10⟩], 20, 30, 500, 600, 4⟩
def marchD : List Day := [⟨10, 20, -2⟩, ⟨40, 60, 5⟩, ⟨0, 10, 1⟩]
def bankV (b : Nat) : Value := .agg #[.slice (some ⟨b, 0, none⟩) 2 2, vi 20, vi 30, vi 500, vi 600, vi 4]
def banked (w : World) (e : Ending) (w' : World) : Prop := ∃ b, e = .returned (gndV (some ⟨b, 0, none⟩) 2 bankG) ∧ Row cellL 7 w' w'.heap.size (some ⟨b, 0, none⟩) bankG.cells ∧ Below w.heap.size w w' 
def marched (w : World) (e : Ending) (w' : World) : Prop := ∃ b, e = .returned (.slice (some ⟨b, 0, none⟩) 3 3) ∧ Row dayL 3 w' w'.heap.size (some ⟨b, 0, none⟩) marchD ∧ Below w.heap.size w w'

set_option maxRecDepth 100000 in
set_option maxHeartbeats 1000000 in
theorem bank_any (w : World) : Calls Try.prog 48 #[] w (banked w) := by
  go_enter Try.func48, Try.ntmps48
  go_wp2_with fail
  have h0 := Whole.made w 38 #[.slice none 0 0, vi 0, vi 0, vi 0, vi 0, vi 0]
  have hB0 := (Below.refl w.heap.size w).alloc (Nat.le_refl _) (.cells #[.slice none 0 0, vi 0, vi 0, vi 0, vi 0, vi 0] 38)
  refine (span_any _ _ _).mono ?_
  rintro e w1 ⟨rfl, hb1⟩
  have h1 := h0.below hb1 h0.lt
  have hB1 := below_next hB0 hb1
  clear h0 hB0 hb1
  go_wp2_with fail
  refine (span_any _ _ _).mono ?_
  rintro e w2 ⟨rfl, hb2⟩
  have h2 := h1.below hb2 h1.lt
  have hB2 := below_next hB1 hb2
  clear h1 hB1 hb2
  go_wp2_with fail
  refine (span_any _ _ _).mono ?_
  rintro e w3 ⟨rfl, hb3⟩
  have h3 := h2.below hb3 h2.lt
  have hB3 := below_next hB2 hb3
  clear h2 hB2 hb3
  go_wp2_with fail
  refine (span_any _ _ _).mono ?_
  rintro e w4 ⟨rfl, hb4⟩
  have h4 := h3.below hb4 h3.lt
  have hB4 := below_next hB3 hb4
  clear h3 hB3 hb4
  have hl := h4.lt
  have f0 := h4.free 0
  have f1 := h4.free 1
  have f2 := h4.free 2
  have f3 := h4.free 3
  have f4 := h4.free 4
  have f5 := h4.free 5
  have c0 := h4.at 0 rfl
  have c1 := h4.at 1 rfl
  have c2 := h4.at 2 rfl
  have c3 := h4.at 3 rfl
  have c4 := h4.at 4 rfl
  have c5 := h4.at 5 rfl
  have H4 := Lib.hid (And.intro h4 hB4)
  clear h4 hB4
  go_wp2_with fail
  have hm := H4.out.1
  have k := (((((hm.set 0 (.slice (some ⟨w4.heap.size, 0, none⟩) 2 2)).set 1 (vi 20)).set 2 (vi 30)).set 3 (vi 500)).set 4 (vi 600)).set 5 (vi 4)
  have hsz : ((((((w4.setCell ⟨w.heap.size, 0, none⟩ (.slice (some ⟨w4.heap.size, 0, none⟩) 2 2)).setCell ⟨w.heap.size, 1, none⟩ (vi 20)).setCell ⟨w.heap.size, 2, none⟩ (vi 30)).setCell ⟨w.heap.size, 3, none⟩ (vi 500)).setCell ⟨w.heap.size, 4, none⟩ (vi 600)).setCell ⟨w.heap.size, 5, none⟩ (vi 4)).heap.size = w4.heap.size := by simp [World.setCell]
  have k2 := k.alloc (.cells #[vi 100, vi 120, vi 400, vi 50, vi 200, vi 1, vi 0, vi 60, vi 60, vi 150, vi 0, vi 500, vi (-1), vi 10] 99)
  have m := Whole.made ((((((w4.setCell ⟨w.heap.size, 0, none⟩ (.slice (some ⟨w4.heap.size, 0, none⟩) 2 2)).setCell ⟨w.heap.size, 1, none⟩ (vi 20)).setCell ⟨w.heap.size, 2, none⟩ (vi 30)).setCell ⟨w.heap.size, 3, none⟩ (vi 500)).setCell ⟨w.heap.size, 4, none⟩ (vi 600)).setCell ⟨w.heap.size, 5, none⟩ (vi 4)) 99 #[vi 100, vi 120, vi 400, vi 50, vi 200, vi 1, vi 0, vi 60, vi 60, vi 150, vi 0, vi 500, vi (-1), vi 10]
  rw [hsz] at m
  have e0 := k2.at 0 rfl
  have e1 := k2.at 1 rfl
  have e2 := k2.at 2 rfl
  have e3 := k2.at 3 rfl
  have e4 := k2.at 4 rfl
  have e5 := k2.at 5 rfl
  refine bodyPost_ret (v := gndV (some ⟨w4.heap.size, 0, none⟩) 2 bankG) (by simp [results, Try.results48, go_sem, e0, e1, e2, e3, e4, e5, bankG]) rfl ⟨w4.heap.size, rfl, row_of_whole (enc := cellL) (s := 7) (fun _ => rfl) m rfl, ?_⟩
  refine Below.alloc ?_ ?_ _
  · exact (((((H4.out.2.setCell (p := ⟨w.heap.size, 0, none⟩) (Nat.le_refl _) _).setCell (p := ⟨w.heap.size, 1, none⟩) (Nat.le_refl _) _).setCell (p := ⟨w.heap.size, 2, none⟩) (Nat.le_refl _) _).setCell (p := ⟨w.heap.size, 3, none⟩) (Nat.le_refl _) _).setCell (p := ⟨w.heap.size, 4, none⟩) (Nat.le_refl _) _).setCell (p := ⟨w.heap.size, 5, none⟩) (Nat.le_refl _) _
  · rw [hsz]; exact H4.out.2.size

set_option maxRecDepth 100000 in
set_option maxHeartbeats 1000000 in
theorem march_any (w : World) : Calls Try.prog 49 #[] w (marched w) := by
  go_enter Try.func49, Try.ntmps49
  go_wp2_with fail
  refine (span_any _ _ _).mono ?_
  rintro e w1 ⟨rfl, hb1⟩
  go_wp2_with fail
  refine (span_any _ _ _).mono ?_
  rintro e w2 ⟨rfl, hb2⟩
  have hB2 := below_next hb1 hb2
  clear hb1 hb2
  go_wp2_with fail
  refine (span_any _ _ _).mono ?_
  rintro e w3 ⟨rfl, hb3⟩
  have hB3 := below_next hB2 hb3
  clear hB2 hb3
  go_wp2_with fail
  go_ret
  exact ⟨w3.heap.size, rfl, row_of_whole (enc := dayL) (s := 3) (l := marchD) (fun _ => rfl) (Whole.made w3 101 _) rfl, hB3.alloc hB3.size _⟩
end Go.Proofs.Yteonkhohloabfaa
