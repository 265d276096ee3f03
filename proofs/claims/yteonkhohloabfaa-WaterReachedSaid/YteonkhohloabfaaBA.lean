/- Sums of lists as sums over numbers; what the laws on truths carry from call to call. -/
import Derived.Test.YteonkhohloabfaaAZ
import Derived.Test.YteonkhohloabfaaAY
import Derived.Test.YteonkhohloabfaaAX
namespace Go.Proofs.Yteonkhohloabfaa
open Go.RowKit

theorem sum_range (p : Nat → Int) : ∀ n, ((List.range n).map p).sum = sumN p n
  | 0 => rfl
  | n + 1 => by
    rw [List.range_succ, List.map_append, List.sum_append, sum_range p n]
    simp [sumN]
theorem sum_list (l : List Int) : l.sum = sumN (iAt l) l.length := by
  rw [← sum_range, map_iAt]
theorem sumN_bd {p : Nat → Int} {b : Int} : ∀ n : Nat, (∀ i, i < n → 0 ≤ p i ∧ p i ≤ b) → 0 ≤ sumN p n ∧ sumN p n ≤ n * b
  | 0, _ => by simp [sumN]
  | n + 1, h => by
    have ih := sumN_bd n (fun i hi => h i (by omega))
    have := h n (by omega)
    simp only [sumN]
    rw [show ((n + 1 : Nat) : Int) * b = n * b + b by rw [Int.natCast_add, Int.add_mul]; simp]
    omega

/-- What a law on a ground with days carries. -/
structure Lw (w : World) (g : Gnd) (A : Option Addr) (cp : Nat) (days : List Day) (D : Option Addr) (W : World) : Prop where
  below : Below w.heap.size w W
  gb : Whole W w.heap.size 26 (gndC A cp g)
  hc : Row cellL 7 W W.heap.size A g.cells
  hd : Row dayL 3 W W.heap.size D days
section
variable {w W W' : World} {g : Gnd} {A : Option Addr} {cp : Nat} {days : List Day} {D : Option Addr}
theorem Lw.next (h : Lw w g A cp days D W) (hb : newer W W') : Lw w g A cp days D W' :=
  ⟨below_next h.below hb, h.gb.below hb h.gb.lt, (h.hc.below hb).more hb.size, (h.hd.below hb).more hb.size⟩
theorem Lw.made (hc : Row cellL 7 w w.heap.size A g.cells) (hd : Row dayL 3 w w.heap.size D days) : Lw w g A cp days D (w.alloc (.cells (gndC A cp g) 26)) :=
  ⟨(Below.refl _ _).alloc (Nat.le_refl _) _, Whole.made _ _ _, row_alloc hc _, row_alloc hd _⟩
theorem newer_alloc (W : World) (o : Obj) : newer W (W.alloc o) := (Below.refl _ _).alloc (Nat.le_refl _) _
theorem Lw.alloc (h : Lw w g A cp days D W) (o : Obj) : Lw w g A cp days D (W.alloc o) := h.next (newer_alloc W o)
theorem Lw.lt (h : Lw w g A cp days D W) : w.heap.size < W.heap.size := h.gb.lt
end
/-- A truth's box. -/
structure Tb (tb : Nat) (snow soak : Int) (lv : List Int) (L : Option Addr) (lp : Nat) (rn : List Int) (R : Option Addr) (rp : Nat) (W : World) : Prop where
  tb : Whole W tb 47 (truC snow soak L lv.length lp R rn.length rp)
  hl : Row intL 1 W W.heap.size L lv
  hr : Row intL 1 W W.heap.size R rn
section
variable {W W' : World} {tb : Nat} {snow soak : Int} {lv rn : List Int} {L R : Option Addr} {lp rp : Nat}
theorem Tb.next (h : Tb tb snow soak lv L lp rn R rp W) (hb : newer W W') : Tb tb snow soak lv L lp rn R rp W' :=
  ⟨h.tb.below hb h.tb.lt, (h.hl.below hb).more hb.size, (h.hr.below hb).more hb.size⟩
theorem Tb.made (hl : Row intL 1 W W.heap.size L lv) (hr : Row intL 1 W W.heap.size R rn) : Tb W.heap.size snow soak lv L lp rn R rp (W.alloc (.cells (truC snow soak L lv.length lp R rn.length rp) 47)) :=
  ⟨Whole.made _ _ _, row_alloc hl _, row_alloc hr _⟩
end
theorem ready_zero {g : Gnd} {days : List Day} (h : readyB g days = true) : g.cells.length ≤ 10 ∧ days.length ≤ 35 ∧ faultN g days = 0 := by
  simp only [readyB, thinB, Bool.and_eq_true, decide_eq_true_eq, beq_iff_eq] at h
  omega
theorem runN_ok {g : Gnd} {days : List Day} {snow soak : Int} {lv rn : List Int} (h : faultN g days = 0) (hf : fitsB g days snow soak lv rn = true) : runN g days snow soak lv rn = 0 := by
  unfold runN
  rw [if_pos h, if_pos hf]

/-- Sum, of a row by numbers. -/
theorem sumRow_any (n : Nat) (f : Nat → Int) (A : Option Addr) (cp : Nat) (w : World) (hn : n ≤ 1000) (hb : ∀ i, i < n → 0 ≤ f i ∧ f i ≤ 1000000000) (hr : Row intL 1 w w.heap.size A ((List.range n).map f)) :
    Calls Try.prog 39 #[.slice A n cp] w fun e w' => e = .returned (vi (sumN f n)) ∧ Below w.heap.size w w' := by
  have h := sum_any ((List.range n).map f) A cp w (by simpa using hn) (fun x hx => by
    obtain ⟨i, hi, rfl⟩ := List.mem_map.1 hx
    exact hb i (List.mem_range.1 hi)) hr
  rw [sum_range] at h
  simpa using h
theorem vT2_row {N : Nat} {sl : Nat → Int} {Q : Option Addr} {cq : Nat} {W : World} (h : vT2 N sl (.slice Q N cq) W) : Row intL 1 W W.heap.size Q ((List.range N).map sl) := by
  obtain ⟨Q', cq', base, e, h2⟩ := h
  injection e with e1 _ e2
  subst e1
  subst e2
  refine row_of_own (by omega) (fun _ => rfl) (base := base) (e := 3) (cap := cq) (n := N) ?_
  rw [ints_flat, List.map_map]
  exact h2
theorem mem_iAt {l : List Int} {x : Int} (h : x ∈ l) : ∃ i, i < l.length ∧ iAt l i = x := by
  obtain ⟨i, hi, e⟩ := List.getElem_of_mem h
  exact ⟨i, hi, by simp [iAt, hi, e]⟩
end Go.Proofs.Yteonkhohloabfaa
