/- Plain laws: with a greater pump a level is kept the sooner; the search of Least finds the least pump; the example's numbers. -/
import Derived.Test.YteonkhohloabfaaAC
import Derived.Test.YteonkhohloabfaaW
namespace Go.Proofs.Yteonkhohloabfaa
open Go.RowKit

theorem firstD_none {n : Nat} {p : Nat → Bool} : (firstD n p == -1) = true ↔ ∀ k, k < n → p k = false := by
  unfold firstD idx
  cases h : (List.range n).findIdx? p with
  | none =>
    rw [List.findIdx?_eq_none_iff] at h
    simp only [beq_self_eq_true, true_iff]
    exact fun k hk => by simpa using h k (List.mem_range.2 hk)
  | some i =>
    rw [List.findIdx?_eq_some_iff_getElem] at h
    obtain ⟨hi, hp, _⟩ := h
    simp only [List.getElem_range] at hp
    constructor
    · intro e
      simp at e
    · intro hh
      rw [hh i (by simpa using hi)] at hp
      cases hp
theorem map_set_same {α : Type} (f : Cell → α) (l : List Cell) (k : Nat) (c : Cell) (h : f c = f (cAt l k)) : (l.set k c).map f = l.map f := by
  apply List.ext_getElem?
  intro i
  rw [List.getElem?_map, List.getElem?_map, List.getElem?_set]
  by_cases e : k = i
  · subst e
    rw [if_pos rfl]
    by_cases hl : k < l.length
    · rw [if_pos hl]
      simp [h, cAt, hl]
    · rw [if_neg hl]
      simp [show l.length ≤ k by omega]
  · rw [if_neg e]
theorem stEnd_pump (hi : Bool) (g : Gnd) (cell : Nat) (p : Int) : stEnd hi (withPump g cell p) = stEnd hi g := by
  unfold stEnd withPump
  simp only
  rw [map_set_same]
  rfl
theorem cAt_set {l : List Cell} {k i : Nat} {c : Cell} (h : i < l.length) : cAt (l.set k c) i = if i = k then c else cAt l i := by
  unfold cAt
  rw [List.getElem?_set]
  by_cases e : k = i
  · subst e; rw [if_pos rfl, if_pos h, if_pos rfl]; rfl
  · rw [if_neg e, if_neg (Ne.symm e)]
theorem drier_pump (g : Gnd) (cell : Nat) {p q : Int} (h : p ≤ q) : Drier (withPump g cell q).cells (withPump g cell p).cells := by
  have hl : (withPump g cell p).cells.length = g.cells.length := withPump_len g cell p
  refine ⟨by rw [withPump_len, withPump_len], ?_, ?_, ?_, ?_, ?_⟩ <;>
  · intro i hi
    rw [hl] at hi
    unfold withPump
    simp only
    rw [cAt_set hi, cAt_set hi]
    split <;> simp [h]
theorem stE_pump_mono {g : Gnd} {days : List Day} (hf : faultN g days = 0) (hi : Bool) (cell : Nat) {p q : Int} (h0 : 0 ≤ p) (h : p ≤ q) (h1 : q ≤ 100000) (k : Nat) (hk : k ≤ days.length) (i : Nat) (hil : i < g.cells.length) :
    (stE hi (withPump g cell q) days k).f i ≤ (stE hi (withPump g cell p) days k).f i := by
  have ok1 := wayOk_end hi (fault_pump hf cell h0 (by omega : p ≤ 100000))
  have ok2 := wayOk_end hi (fault_pump hf cell (by omega : (0 : Int) ≤ q) h1)
  refine (stAt_mono ok1 ok2 (drier_pump g cell h) (Int.le_refl _) (fun _ _ => Int.le_refl _) (fun i _ => ?_) ?_ k hk).1 i (by rw [withPump_len]; exact hil)
  · rw [stEnd_pump, stEnd_pump]; exact Int.le_refl _
  · rw [stEnd_pump, stEnd_pump]; exact Int.le_refl _
theorem keepsB_mono {g : Gnd} {days : List Day} (hf : faultN g days = 0) {cell : Nat} (hc : cell < g.cells.length) (level : Int) {p q : Int} (h0 : 0 ≤ p) (h : p ≤ q) (h1 : q ≤ 100000) (hp : keepsB g days cell level p = true) : keepsB g days cell level q = true := by
  unfold keepsB at hp ⊢
  rw [firstD_none] at hp ⊢
  intro k hk
  have := hp k hk
  have hm := stE_pump_mono hf true cell h0 h h1 (k + 1) (by omega) cell hc
  simp only [decide_eq_false_iff_not] at this ⊢
  omega
/-- What the search has found, of a test that holds for all greater numbers once it holds. -/
theorem halved_ok {p : Int → Bool} (hm : ∀ a b, 0 ≤ a → a ≤ b → b ≤ 100000 → p a = true → p b = true) {n : Int} (h : Halved p 0 100000 n (n - 1)) :
    0 ≤ n ∧ n ≤ 100001 ∧ (n ≤ 100000 ↔ p 100000 = true) ∧ (n ≤ 100000 → p n = true) ∧ (n = 0 ∨ p (n - 1) = false) := by
  have l1 := h.le1
  have l3 := h.le3
  have hu : n ≤ 100000 → p n = true := fun hn => by
    rcases h.upper with e | e
    · omega
    · rw [show n - 1 + 1 = n by omega] at e; exact e
  refine ⟨l1, by omega, ⟨fun hn => hm n 100000 l1 hn (Int.le_refl _) (hu hn), fun hp => ?_⟩, hu, h.lower⟩
  rcases Int.lt_or_le 100000 n with hlt | hle
  · have e : n = 100001 := by omega
    subst e
    rcases h.lower with e | e
    · omega
    · rw [show (100001 : Int) - 1 = 100000 by omega, hp] at e; cases e
  · exact hle
theorem halved_is {p : Int → Bool} (hm : ∀ a b, 0 ≤ a → a ≤ b → b ≤ 100000 → p a = true → p b = true) {n m : Int} (h : Halved p 0 100000 n (n - 1)) (h1 : 1 ≤ m) (h2 : m ≤ 100000) (hp : p m = true) (hq : p (m - 1) = false) : n = m := by
  obtain ⟨a, b, c, d, e⟩ := halved_ok hm h
  rcases Int.lt_trichotomy n m with hlt | rfl | hgt
  · have := hm n (m - 1) a (by omega) (by omega) (d (by omega))
    rw [hq] at this; cases this
  · rfl
  · rcases e with e | e
    · omega
    · have := hm m (n - 1) (by omega) (by omega) (by omega) hp
      rw [e] at this; cases this

/-! ## The example's numbers -/
theorem bank_fault : faultN bankG marchD = 0 := by decide +kernel
theorem bank_asked : askedN bankG marchD 1 70 = 0 := by decide +kernel
theorem bank_least {n : Int} (h : Halved (keepsB bankG marchD 1 70) 0 100000 n (n - 1)) : n = 15 :=
  halved_is (fun _ _ a b c d => keepsB_mono bank_fault (by decide) 70 a b c d) h (by omega) (by omega) (by decide +kernel) (by decide +kernel)
theorem bank_lo : ((stE false bankG marchD 1).f 0 = 90 ∧ (stE false bankG marchD 1).f 1 = 35) ∧ ((stE false bankG marchD 2).f 0 = 112 ∧ (stE false bankG marchD 2).f 1 = 51) ∧ ((stE false bankG marchD 3).f 0 = 102 ∧ (stE false bankG marchD 3).f 1 = 35) := by decide +kernel
theorem bank_hi : ((stE true bankG marchD 1).f 0 = 106 ∧ (stE true bankG marchD 1).f 1 = 39) ∧ ((stE true bankG marchD 2).f 0 = 143 ∧ (stE true bankG marchD 2).f 1 = 74) ∧ ((stE true bankG marchD 3).f 0 = 133 ∧ (stE true bankG marchD 3).f 1 = 58) := by decide +kernel
theorem bank_snow : ((stE false bankG marchD 1).snow = 30 ∧ (stE true bankG marchD 1).snow = 50) ∧ ((stE false bankG marchD 2).snow = 10 ∧ (stE true bankG marchD 2).snow = 30) ∧ ((stE false bankG marchD 3).snow = 6 ∧ (stE true bankG marchD 3).snow = 26) := by decide +kernel
end Go.Proofs.Yteonkhohloabfaa
