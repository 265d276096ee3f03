/- A cell's greatest level, and its first day: plain laws; runs with another pump. -/
import Derived.Test.YteonkhohloabfaaBE
import Derived.Test.YteonkhohloabfaaAD
import Derived.Test.YteonkhohloabfaaAY
namespace Go.Proofs.Yteonkhohloabfaa
open Go.RowKit

theorem highN_le {f : Nat → Nat → Int} {c : Nat} {L : Int} (hL : -1 ≤ L) : ∀ N, (∀ k, k < N → f k c ≤ L) → highN f c N ≤ L
  | 0, _ => hL
  | N + 1, h => by
    have ih := highN_le hL N (fun k hk => h k (by omega))
    have := h N (by omega)
    simp only [highN]
    split <;> omega
theorem highN_ge {f : Nat → Nat → Int} {c : Nat} : ∀ {N k : Nat}, k < N → f k c ≤ highN f c N
  | 0, _, h => by omega
  | N + 1, k, h => by
    simp only [highN]
    by_cases e : k = N
    · subst e
      split <;> omega
    · have ih := highN_ge (f := f) (c := c) (N := N) (k := k) (by omega)
      split <;> omega
theorem keeps_yes {g : Gnd} {days : List Day} {cell : Nat} {level pump : Int} (h : keepsB g days cell level pump = true) : ∀ k, k < days.length → (stE true (withPump g cell pump) days (k + 1)).f cell ≤ level := by
  unfold keepsB at h
  rw [firstD_none] at h
  intro k hk
  have := h k hk
  simp only [decide_eq_false_iff_not] at this
  omega
theorem keeps_no {g : Gnd} {days : List Day} {cell : Nat} {level pump : Int} (h : keepsB g days cell level pump = false) : level < highN (fun j i => (stE true (withPump g cell pump) days (j + 1)).f i) cell days.length := by
  have hn : ¬ ∀ k, k < days.length → decide (level + 1 ≤ (stE true (withPump g cell pump) days (k + 1)).f cell) = false := by
    rw [← firstD_none]
    intro e
    unfold keepsB at h
    rw [e] at h
    cases h
  have : ∃ k, k < days.length ∧ level + 1 ≤ (stE true (withPump g cell pump) days (k + 1)).f cell := by
    apply Classical.byContradiction
    intro hc
    apply hn
    intro k hk
    apply decide_eq_false
    intro hle
    exact hc ⟨k, hk, hle⟩
  obtain ⟨k, hk, hle⟩ := this
  have hg := highN_ge (f := fun j i => (stE true (withPump g cell pump) days (j + 1)).f i) (c := cell) hk
  have hg' : (stE true (withPump g cell pump) days (k + 1)).f cell ≤ highN (fun j i => (stE true (withPump g cell pump) days (j + 1)).f i) cell days.length := hg
  omega
theorem keeps_less {g : Gnd} {days : List Day} (hf : faultN g days = 0) {cell : Nat} (hc : cell < g.cells.length) {level p q : Int} (h0 : 0 ≤ p) (h : p ≤ q) (h1 : q ≤ 100000) (hq : keepsB g days cell level q = false) : keepsB g days cell level p = false := by
  cases hp : keepsB g days cell level p with
  | false => rfl
  | true =>
    have := keepsB_mono hf hc level h0 h h1 hp
    rw [hq] at this
    cases this
/-- What the search for the least pump tells. -/
theorem least_says {g : Gnd} {days : List Day} (hf : faultN g days = 0) {cell : Nat} (hc : cell < g.cells.length) {level n : Int} (h : Halved (keepsB g days cell level) 0 100000 n (n - 1)) :
    0 ≤ n ∧ (n ≤ 100000 → keepsB g days cell level n = true) ∧ (n ≤ 100000 → n ≠ 0 → keepsB g days cell level (n - 1) = false) ∧ (100000 < n → keepsB g days cell level 100000 = false) := by
  obtain ⟨a, b, c, d, e⟩ := halved_ok (fun _ _ a b c d => keepsB_mono hf hc level a b c d) h
  refine ⟨a, d, fun _ hn => ?_, fun hn => ?_⟩
  · rcases e with e | e
    · exact absurd e hn
    · exact e
  · cases hp : keepsB g days cell level 100000 with
    | false => rfl
    | true => have := c.2 hp; omega
theorem asked_ok {g : Gnd} {days : List Day} (hf : faultN g days = 0) {cell : Nat} (hc : cell < g.cells.length) {level : Int} (h0 : 0 ≤ level) (h1 : level ≤ 100000) : askedN g days cell level = 0 := by
  unfold askedN
  rw [if_pos hf, if_pos (by simp only [inB, Bool.and_eq_true, decide_eq_true_eq]; omega), if_pos (by simp only [inB, Bool.and_eq_true, decide_eq_true_eq]; omega)]
theorem least_yes (g : Gnd) (A : Option Addr) (ap : Nat) (days : List Day) (D : Option Addr) (dp : Nat) (cell : Nat) (level : Int) (w : World) (hn : g.cells.length ≤ 1000) (hm : days.length ≤ 1000) (hc : Row cellL 7 w w.heap.size A g.cells) (hd : Row dayL 3 w w.heap.size D days) (hf : askedN g days cell level = 0) :
    Calls Try.prog 24 #[gndV A ap g, .slice D days.length dp, .int .i64 cell, .int .i64 level] w fun e w' => (∃ n : Int, Halved (keepsB g days cell level) 0 100000 n (n - 1) ∧ e = .returned (.tuple (if 100000 < n then #[.int .i64 0, .int .i64 9] else #[.int .i64 n, .int .i64 0]))) ∧ Below w.heap.size w w' :=
  (least_ok g A ap days D dp cell level w hn hm hc hd hf).mono fun _ _ ⟨n, h1, h2, h3⟩ => ⟨⟨n, h1, h2⟩, h3⟩
theorem run_ends_pump (hi : Bool) (g : Gnd) (kk : Nat) (pm : Int) (A : Option Addr) (ap : Nat) (days : List Day) (D : Option Addr) (dp : Nat) (L : Option Addr) (lp : Nat) (R : Option Addr) (rp : Nat) (w : World) (hn : g.cells.length ≤ 1000) (hm : days.length ≤ 1000) (hf : faultN (withPump g kk pm) days = 0)
    (hc : Row cellL 7 w w.heap.size A (withPump g kk pm).cells) (hd : Row dayL 3 w w.heap.size D days) (hL : Row intL 1 w w.heap.size L (g.cells.map fun c => endOf hi c.lo c.hi)) (hR : Row intL 1 w w.heap.size R (days.map fun d => endOf hi d.lo d.hi)) :
    Calls Try.prog 32 #[gndV A ap (withPump g kk pm), .slice D days.length dp, truthV (endOf hi g.slo g.shi) (endOf hi g.klo g.khi) L g.cells.length lp R days.length rp] w fun e w' => (∃ v, e = .returned v ∧ vRunE hi (withPump g kk pm) days v w') ∧ Below w.heap.size w w' := by
  have hme : (withPump g kk pm).cells.map (fun c => endOf hi c.lo c.hi) = g.cells.map fun c => endOf hi c.lo c.hi := map_set_same (fun c => endOf hi c.lo c.hi) g.cells kk _ rfl
  have h := run_ends hi (withPump g kk pm) A ap days D dp L lp R rp w (by rw [withPump_len]; exact hn) hm hf hc hd (by rw [hme]; exact hL) hR
  have e : truthV (endOf hi (withPump g kk pm).slo (withPump g kk pm).shi) (endOf hi (withPump g kk pm).klo (withPump g kk pm).khi) L (withPump g kk pm).cells.length lp R days.length rp = truthV (endOf hi g.slo g.shi) (endOf hi g.klo g.khi) L g.cells.length lp R days.length rp := by rw [withPump_len]; rfl
  rw [e] at h
  exact h
end Go.Proofs.Yteonkhohloabfaa
