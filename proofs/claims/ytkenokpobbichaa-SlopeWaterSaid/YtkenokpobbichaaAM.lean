/- The surfaces that begin so, some of them: plain. -/
import Derived.Test.YtkenokpobbichaaAL
namespace Go.Proofs.Ytkenokpobbichaa
open Go.RowKit Go.Shelf Go.Deep

/-- May a bed be next behind a way? -/
def nearT (l : List Nat) (b : Nat) : Prop := ∀ y, l.getLast? = some y → y ≤ b + 1 ∧ b ≤ y + 1
/-- The surface itself, where it is one. -/
def ownS (cols K k : Nat) (l : List Nat) : List (List Nat) := if l ≠ [] ∧ K ≤ l.length ∧ k + l.length ≤ cols then [l] else []
/-- The surfaces that begin so, up to a bed. -/
def partS (n cols K k r : Nat) (l : List Nat) : Nat → List (List Nat)
  | 0 => ownS cols K k l
  | i + 1 => partS n cols K k r l i ++ (if nearB l i then surfsR n cols K k r (l ++ [i]) else [])
where nearB (l : List Nat) (b : Nat) : Bool := match l.getLast? with | none => true | some y => decide (y ≤ b + 1) && decide (b ≤ y + 1)
theorem near_iff {l : List Nat} {b : Nat} : partS.nearB l b = true ↔ ∀ y, l.getLast? = some y → y ≤ b + 1 ∧ b ≤ y + 1 := by
  unfold partS.nearB
  cases l.getLast? with
  | none => simp
  | some y => simp
theorem part_flat {n cols K k r : Nat} {l : List Nat} : ∀ i, partS n cols K k r l i = ownS cols K k l ++ (List.range i).flatMap fun b => if (∀ y, l.getLast? = some y → y ≤ b + 1 ∧ b ≤ y + 1) then surfsR n cols K k r (l ++ [b]) else []
  | 0 => by simp [partS]
  | i + 1 => by
    unfold partS
    rw [part_flat i, List.range_succ, List.flatMap_append, List.append_assoc]
    congr 2
    by_cases h : ∀ y, l.getLast? = some y → y ≤ i + 1 ∧ i ≤ y + 1
    · simp only [List.flatMap_cons, List.flatMap_nil, List.append_nil]
      rw [if_pos h, if_pos (near_iff.2 h)]
    · simp only [List.flatMap_cons, List.flatMap_nil, List.append_nil]
      rw [if_neg h, if_neg (fun e => h (near_iff.1 e))]
theorem part_all {n cols K k r : Nat} {l : List Nat} : partS n cols K k r l n = surfsR n cols K k (r + 1) l := by
  rw [part_flat]
  rfl
theorem surfs_last {n cols K k : Nat} {l : List Nat} : surfsR n cols K k 0 l = ownS cols K k l := rfl
theorem flat_few {α : Type} {m : Nat} (f : Nat → List α) (h : ∀ b, (f b).length ≤ m) : ∀ i, ((List.range i).flatMap f).length ≤ i * m
  | 0 => by simp
  | i + 1 => by
    rw [List.range_succ, List.flatMap_append, List.length_append, Nat.succ_mul]
    have h1 := flat_few f h i
    have h2 := h i
    simp only [List.flatMap_cons, List.flatMap_nil, List.append_nil]
    omega
theorem own_few (cols K k : Nat) (l : List Nat) : (ownS cols K k l).length ≤ 1 := by
  unfold ownS
  split <;> simp
theorem surfs_few {n cols K k : Nat} (hn : n ≤ 5) : ∀ r l, (surfsR n cols K k r l).length ≤ 6 ^ r
  | 0, l => by
    rw [surfs_last]
    exact own_few _ _ _ _
  | r + 1, l => by
    rw [← part_all, part_flat, List.length_append]
    have h1 := own_few cols K k l
    have h2 := flat_few (m := 6 ^ r) (fun b => if (∀ y, l.getLast? = some y → y ≤ b + 1 ∧ b ≤ y + 1) then surfsR n cols K k r (l ++ [b]) else []) (fun b => by
      by_cases h : ∀ y, l.getLast? = some y → y ≤ b + 1 ∧ b ≤ y + 1
      · rw [if_pos h]
        exact surfs_few hn r _
      · rw [if_neg h]
        simp) n
    have h3 : n * 6 ^ r ≤ 5 * 6 ^ r := Nat.mul_le_mul_right _ hn
    have h4 : 0 < 6 ^ r := Nat.pow_pos (by omega)
    rw [Nat.pow_succ]
    omega
theorem part_few {n cols K k r : Nat} (hn : n ≤ 5) (hr : r ≤ 12) {l : List Nat} {i : Nat} (hi : i ≤ 5) : (partS n cols K k r l i).length ≤ 10883911681 := by
  rw [part_flat, List.length_append]
  have h1 := own_few cols K k l
  have h2 := flat_few (m := 6 ^ r) (fun b => if (∀ y, l.getLast? = some y → y ≤ b + 1 ∧ b ≤ y + 1) then surfsR n cols K k r (l ++ [b]) else []) (fun b => by
    by_cases h : ∀ y, l.getLast? = some y → y ≤ b + 1 ∧ b ≤ y + 1
    · rw [if_pos h]
      exact surfs_few hn r _
    · rw [if_neg h]
      simp) i
  have h3 : i * 6 ^ r ≤ 5 * 6 ^ 12 := Nat.mul_le_mul hi (Nat.pow_le_pow_right (by omega) hr)
  have h4 : 5 * 6 ^ 12 = 10883911680 := by decide
  omega
theorem surfs_few12 {n cols K k r : Nat} (hn : n ≤ 5) (hr : r ≤ 12) (l : List Nat) : (surfsR n cols K k r l).length ≤ 2176782336 := by
  have h1 := surfs_few (cols := cols) (K := K) (k := k) hn r l
  have h3 : 6 ^ r ≤ 6 ^ 12 := Nat.pow_le_pow_right (by omega) hr
  have h4 : 6 ^ 12 = 2176782336 := by decide
  omega
/-- The last bed of a way. -/
theorem last_at {l : List Nat} {p : Int} (hl : l ≠ []) (hp : iAt (l.map fun x : Nat => (x : Int)) (l.length - 1) = p) : ∃ y : Nat, l.getLast? = some y ∧ p = y := by
  obtain ⟨y, hy⟩ := get_of_lt (l := l) (k := l.length - 1) (by have := List.length_pos_iff.2 hl; omega)
  refine ⟨y, by rw [List.getLast?_eq_getElem?, hy], ?_⟩
  rw [← hp]
  simp [iAt, hy]
theorem near_last {l : List Nat} {p : Int} {b : Nat} (hl : l ≠ []) (hp : iAt (l.map fun x : Nat => (x : Int)) (l.length - 1) = p) : partS.nearB l b = inB ((b : Int) - p) (-1) 1 := by
  obtain ⟨y, hy, rfl⟩ := last_at hl hp
  unfold partS.nearB inB
  rw [hy]
  simp only
  congr 1 <;> exact decide_eq_decide.2 (by omega)
theorem own_yes {s : Sd} (hs : SdOk s) {k : Nat} {l : List Nat} (hl : l ≠ []) (h : surfB s k (l.map fun x : Nat => (x : Int)) = true) : ownS s.cols.length s.K k l = [l] := by
  have h1 := (surfB_nat hs).1 h
  unfold ownS
  rw [if_pos ⟨hl, h1.1, h1.2.1⟩]
theorem own_no {s : Sd} (hs : SdOk s) {k : Nat} {l : List Nat} (hw : wayB s.n l) (h : surfB s k (l.map fun x : Nat => (x : Int)) = false) : ownS s.cols.length s.K k l = [] := by
  unfold ownS
  rw [if_neg]
  rintro ⟨h1, h2, h3⟩
  have := (surfB_nat hs).2 ⟨h2, h3, hw⟩
  rw [h] at this
  cases this
theorem own_nil (cols K k : Nat) : ownS cols K k [] = [] := by
  unfold ownS
  rw [if_neg (fun h => h.1 rfl)]

end Go.Proofs.Ytkenokpobbichaa
