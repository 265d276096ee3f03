/- The first day on which a cell reaches a level: plain laws. -/
import Derived.Test.YteonkhohloabfaaBC
import Derived.Test.YteonkhohloabfaaAM
namespace Go.Proofs.Yteonkhohloabfaa
open Go.RowKit

/-! ## The first day -/
theorem firstE_bd (hi : Bool) (g : Gnd) (days : List Day) (cell : Nat) (level : Int) : -1 ≤ firstE hi g days cell level ∧ firstE hi g days cell level < days.length ∧ (firstE hi g days cell level < 0 → firstE hi g days cell level = -1) := by
  unfold firstE firstD idx
  cases h : (List.range days.length).findIdx? _ with
  | none => simp; omega
  | some i =>
    rw [List.findIdx?_eq_some_iff_getElem] at h
    obtain ⟨h1, _⟩ := h
    simp at h1 ⊢
    omega
theorem firstE_yes {hi : Bool} {g : Gnd} {days : List Day} {cell : Nat} {level : Int} (h : 0 ≤ firstE hi g days cell level) : level ≤ (stE hi g days ((firstE hi g days cell level).toNat + 1)).f cell := by
  unfold firstE firstD idx at h ⊢
  cases hx : (List.range days.length).findIdx? (fun k => decide (level ≤ (stE hi g days (k + 1)).f cell)) with
  | none => rw [hx] at h; simp at h
  | some i =>
    rw [List.findIdx?_eq_some_iff_getElem] at hx
    obtain ⟨h1, h2, _⟩ := hx
    simp at h2 ⊢
    exact h2
theorem firstE_le {hi : Bool} {g : Gnd} {days : List Day} {cell : Nat} {level : Int} {k : Nat} (hk : k < days.length) (h : level ≤ (stE hi g days (k + 1)).f cell) : 0 ≤ firstE hi g days cell level ∧ firstE hi g days cell level ≤ k := by
  unfold firstE firstD idx
  cases hx : (List.range days.length).findIdx? (fun k => decide (level ≤ (stE hi g days (k + 1)).f cell)) with
  | none =>
    rw [List.findIdx?_eq_none_iff] at hx
    have := hx k (List.mem_range.2 hk)
    simp at this
    omega
  | some i =>
    rw [List.findIdx?_eq_some_iff_getElem] at hx
    obtain ⟨h1, h2, h3⟩ := hx
    simp
    by_cases hlt : i ≤ k
    · exact hlt
    · have := h3 k (by omega)
      simp at this
      omega
/-- A day behind all others, where there is none. -/
def lateN (N : Nat) (x : Int) : Int := if x < 0 then N else x
/-- The first day with a level, sought from the last one. -/
def rd (f : Nat → Nat → Int) (c : Nat) (L : Int) (N : Nat) : Nat → Int
  | 0 => N
  | m + 1 => if L ≤ f (N - 1 - m) c then ((N - 1 - m : Nat) : Int) else rd f c L N m
theorem rd_spec (f : Nat → Nat → Int) (c : Nat) (L : Int) (N : Nat) : ∀ m, m ≤ N → (rd f c L N m = N ∨ ∃ j, N - m ≤ j ∧ j < N ∧ rd f c L N m = j ∧ L ≤ f j c) ∧ ∀ j, N - m ≤ j → j < N → L ≤ f j c → rd f c L N m ≤ j
  | 0, _ => ⟨.inl rfl, fun j h1 h2 _ => by omega⟩
  | m + 1, hm => by
    obtain ⟨h1, h2⟩ := rd_spec f c L N m (by omega)
    simp only [rd]
    by_cases h : L ≤ f (N - 1 - m) c
    · rw [if_pos h]
      refine ⟨.inr ⟨N - 1 - m, by omega, by omega, rfl, h⟩, fun j a b _ => by omega⟩
    · rw [if_neg h]
      refine ⟨?_, fun j a b hl => ?_⟩
      · rcases h1 with h1 | ⟨j, a, b, c', d⟩
        · exact .inl h1
        · exact .inr ⟨j, by omega, b, c', d⟩
      · by_cases e : j = N - 1 - m
        · subst e; exact absurd hl h
        · exact h2 j (by omega) b hl
theorem rd_all {g : Gnd} {days : List Day} {f : Nat → Nat → Int} {c : Nat} {L : Int} (hb : ∀ k, k < days.length → (stE false g days (k + 1)).f c ≤ f k c ∧ f k c ≤ (stE true g days (k + 1)).f c) :
    lateN days.length (firstE true g days c L) ≤ rd f c L days.length days.length ∧ rd f c L days.length days.length ≤ lateN days.length (firstE false g days c L) := by
  obtain ⟨h1, h2⟩ := rd_spec f c L days.length days.length (Nat.le_refl _)
  have b1 := firstE_bd true g days c L
  have b2 := firstE_bd false g days c L
  constructor
  · rcases h1 with h1 | ⟨j, _, hj, e, hl⟩
    · rw [h1]
      unfold lateN
      split <;> omega
    · have := hb j hj
      have := firstE_le (hi := true) (g := g) (cell := c) (level := L) hj (by omega)
      rw [e]
      unfold lateN
      split <;> omega
  · by_cases hneg : firstE false g days c L < 0
    · unfold lateN
      rw [if_pos hneg]
      rcases h1 with h1 | ⟨j, _, hj, e, hl⟩
      · omega
      · omega
    · unfold lateN
      rw [if_neg hneg]
      have hy := firstE_yes (hi := false) (g := g) (days := days) (cell := c) (level := L) (by omega)
      obtain ⟨q, hq⟩ : ∃ q : Nat, firstE false g days c L = q := ⟨(firstE false g days c L).toNat, by omega⟩
      rw [hq] at hy ⊢
      simp only [Int.toNat_natCast] at hy
      have hqn : q < days.length := by omega
      have := hb q hqn
      exact h2 q (by omega) hqn (by omega)
theorem first_order {g : Gnd} {days : List Day} (hf : faultN g days = 0) {c : Nat} (hc : c < g.cells.length) {L L' : Int} (hL : L ≤ L') :
    lateN days.length (firstE true g days c L) ≤ lateN days.length (firstE false g days c L) ∧ lateN days.length (firstE true g days c L) ≤ lateN days.length (firstE true g days c L') ∧ lateN days.length (firstE false g days c L) ≤ lateN days.length (firstE false g days c L') := by
  have key : ∀ (hi hi' : Bool) (M : Int), L ≤ M → (∀ k, k < days.length → (stE hi' g days (k + 1)).f c ≤ (stE hi g days (k + 1)).f c) → lateN days.length (firstE hi g days c L) ≤ lateN days.length (firstE hi' g days c M) := by
    intro hi hi' M hM hle
    have b1 := firstE_bd hi g days c L
    have b2 := firstE_bd hi' g days c M
    by_cases hneg : firstE hi' g days c M < 0
    · unfold lateN
      rw [if_pos hneg]
      split <;> omega
    · have hy := firstE_yes (hi := hi') (g := g) (days := days) (cell := c) (level := M) (by omega)
      obtain ⟨q, hq⟩ : ∃ q : Nat, firstE hi' g days c M = q := ⟨(firstE hi' g days c M).toNat, by omega⟩
      rw [hq] at hy b2
      simp only [Int.toNat_natCast] at hy
      have hqn : q < days.length := by omega
      have h1 := hle q hqn
      have := firstE_le (hi := hi) (g := g) (cell := c) (level := L) hqn (by omega)
      unfold lateN
      rw [hq, if_neg (by omega), if_neg (by omega)]
      exact this.2
  have hlo : ∀ k, k < days.length → (stE false g days (k + 1)).f c ≤ (stE true g days (k + 1)).f c := by
    intro k hk
    have a := (stR_lo hf (ends_fit true hf) (k := k + 1) (by omega)).1 c hc
    exact a
  exact ⟨key true false L (Int.le_refl _) hlo, key true true L' hL fun _ _ => Int.le_refl _, key false false L' hL fun _ _ => Int.le_refl _⟩
end Go.Proofs.Yteonkhohloabfaa
