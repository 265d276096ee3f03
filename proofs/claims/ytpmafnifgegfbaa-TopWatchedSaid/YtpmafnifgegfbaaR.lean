/- All movements of a spot: the function that yields them. -/
import Derived.Test.YtpmafnifgegfbaaQ
import Derived.RangeFuncBound
import Derived.Shelf.Abstract
import Derived.Shelf.RegionOpen
import Derived.OwnWalkIn
import Derived.TacticsInMore
import Derived.LoopNIn
import Derived.LoopIn
namespace Go.Proofs.Ytpmafnifgegfbaa
open Go.RowKit Go.Shelf Go.Deep

set_option maxHeartbeats 1000000 in
theorem moves_any (p : Sp) (w : World) : Calls Try.prog 93 #[spV p] w fun e w' => e = .returned (.func (.func 121) #[] #[.pointer (some ⟨w.heap.size, 0, none⟩)]) ∧ w' = w.alloc (.cells (spC p) 56) := by
  go_enter Try.func93, Try.ntmps93
  go_wp2_with fail
  go_ret
  exact ⟨rfl, rfl⟩
def wideN (r : Rg) : Nat := (r.hi - r.lo + 1).toNat
theorem span_at {r : Rg} {i : Nat} (h : i < wideN r) : (spanL r)[i]? = some (r.lo + (i : Int)) := by
  unfold spanL
  unfold wideN at h
  rw [List.getElem?_map, List.getElem?_range h]
  rfl
theorem span_len (r : Rg) : (spanL r).length = wideN r := by unfold spanL wideN; rw [List.length_map, List.length_range]
theorem grid_at {α β : Type} {f : α → List β} {n : Nat} (hf : ∀ x, (f x).length = n) : ∀ (l : List α) (i j : Nat) (x : α), l[i]? = some x → j < n → (l.flatMap f)[i * n + j]? = (f x)[j]?
  | y :: l, 0, j, x, h, hj => by
    simp only [List.getElem?_cons_zero, Option.some.injEq] at h
    subst h
    rw [List.flatMap_cons, Nat.zero_mul, Nat.zero_add, List.getElem?_append_left (by rw [hf]; exact hj)]
  | y :: l, i + 1, j, x, h, hj => by
    rw [List.getElem?_cons_succ] at h
    rw [List.flatMap_cons, List.getElem?_append_right (by rw [hf, Nat.add_mul]; omega), hf, show (i + 1) * n + j - n = i * n + j by rw [Nat.add_mul]; omega]
    exact grid_at hf l i j x h hj
theorem grid_len {α β : Type} {f : α → List β} {n : Nat} (hf : ∀ x, (f x).length = n) : ∀ (l : List α), (l.flatMap f).length = l.length * n
  | [] => by simp
  | y :: l => by rw [List.flatMap_cons, List.length_append, hf, grid_len hf l, List.length_cons, Nat.add_mul]; omega
theorem moves_at {p : Sp} {i j : Nat} (hi : i < wideN p.x) (hj : j < wideN p.y) : (movesL p)[i * wideN p.y + j]? = some (p.x.lo + (i : Int), p.y.lo + (j : Int)) := by
  unfold movesL
  rw [grid_at (n := wideN p.y) (fun x => by rw [List.length_map, span_len]) _ _ _ _ (span_at hi) hj, List.getElem?_map, span_at hj]
  rfl
theorem moves_len (p : Sp) : (movesL p).length = wideN p.x * wideN p.y := by
  unfold movesL
  rw [grid_len (n := wideN p.y) (fun x => by rw [List.length_map, span_len]), span_len]
attribute [local go_sem] Oper.semAt_some
set_option maxRecDepth 100000 in
set_option maxHeartbeats 2000000 in
theorem moves_in (q l c : Nat) (p : Sp) (h1 : -1000 ≤ p.x.lo ∧ p.x.lo ≤ p.x.hi ∧ p.x.hi ≤ 1000) (h2 : -1000 ≤ p.y.lo ∧ p.y.lo ≤ p.y.hi ∧ p.y.hi ≤ 1000) (J : Nat → World → Prop)
    (hJ : ∀ k W, J k W → Whole W c 56 (spC p))
    (hY : ∀ k m W, (movesL p)[k]? = some m → J k W → YieldAt Fence.wide (q - 1) Try.prog l #[mvV m] W fun e W'' => e = .returned (.bool true) ∧ J (k + 1) W'')
    (W : World) (hW : J 0 W) :
    CallsIn Fence.wide q Try.prog 121 #[.func (.yield l) #[] #[], .pointer (some ⟨c, 0, none⟩)] W fun e W' => (∃ v, e = .returned v) ∧ J (movesL p).length W' := by
  have HJ := Lib.hid hJ
  have HY := Lib.hid hY
  have c0 := (hJ 0 W hW).at 0 (v := vi p.x.lo) rfl
  have hnx : ((wideN p.x : Nat) : Int) = p.x.hi - p.x.lo + 1 := by unfold wideN; omega
  have hny : ((wideN p.y : Nat) : Int) = p.y.hi - p.y.lo + 1 := by unfold wideN; omega
  have HLE := Lib.hid (moves_len p)
  have HAT := Lib.hid (fun i j => moves_at (p := p) (i := i) (j := j))
  obtain ⟨nx, hx⟩ : ∃ n, n = wideN p.x := ⟨_, rfl⟩
  obtain ⟨ny, hy⟩ : ∃ n, n = wideN p.y := ⟨_, rfl⟩
  rw [← hx] at hnx HLE HAT
  rw [← hy] at hny HLE HAT
  clear hJ hY hx hy
  refine callsIn_of_wp Try.func121 rfl trivial ?_ rfl
  simp only [Try.ntmps121, List.size_toArray, List.length_cons, List.length_nil, Nat.reduceAdd, Nat.reduceSub, Array.replicate_succ, Array.replicate_zero, List.push_toArray, List.append_toArray, List.nil_append, List.cons_append]
  gi_wp2_with fail
  clear c0
  gi_loopw [3, 4] (fun s3 _ wr => ∃ i : Nat, i ≤ nx ∧ s3 = vi (p.x.lo + i) ∧ J (i * ny) wr) (fun s3 _ _ => (p.x.hi + 1 - intOf s3).toNat)
  case atStart => exact ⟨0, Nat.zero_le _, by simp, by rw [Nat.zero_mul]; exact hW⟩
  case round =>
    obtain ⟨i, hi, rfl, hj⟩ := hrel
    have hc := HJ.out _ _ hj
    have c1 := hc.at 1 (v := vi p.x.hi) rfl
    have c2 := hc.at 2 (v := vi p.y.lo) rfl
    by_cases hlt : i < nx
    · have hle : p.x.lo + (i : Int) ≤ p.x.hi := by omega
      obtain ⟨wo, hwo⟩ : ∃ wo : World, wo = wr := ⟨_, rfl⟩
      rw [← hwo] at c1 c2 hj ⊢
      clear hwo hc hW wr
      gi_wp2_with fail
      clear c1 c2
      gi_loopw [4] (fun s4 wr => ∃ j : Nat, j ≤ ny ∧ s4 = vi (p.y.lo + j) ∧ J (i * ny + j) wr) (fun s4 _ => (p.y.hi + 1 - intOf s4).toNat)
      case atStart => exact ⟨0, Nat.zero_le _, by simp, hj⟩
      case round =>
        obtain ⟨j, hjn, rfl, hj2⟩ := hrel
        have hc := HJ.out _ _ hj2
        have c3 := hc.at 3 (v := vi p.y.hi) rfl
        by_cases hlj : j < ny
        · have hle2 : p.y.lo + (j : Int) ≤ p.y.hi := by omega
          have HYK := Lib.hid (HY.out _ _ wr (HAT.out i j hlt hlj) hj2)
          clear hc hj hj2
          obtain ⟨fn, tmps, assign, body, hy, hR⟩ := HYK.out
          gi_wp2_with fail
          refine ⟨fun h => (by cases h), hR.mono ?_⟩
          clear hy hR c3
          rintro e w3 ⟨rfl, hj3⟩
          gi_wp2_with fail
          go_roundw
          case rel => exact ⟨j + 1, by omega, by rw [show p.y.lo + ((j + 1 : Nat) : Int) = p.y.lo + j + 1 by omega], hj3⟩
          case measure => simp [intOf]; omega
        · obtain rfl : j = ny := by omega
          have hle2 : ¬ (p.y.lo + (j : Int) ≤ p.y.hi) := by omega
          have HJ2 := Lib.hid (show J ((i + 1) * j) wr by rw [Nat.add_mul, Nat.one_mul]; exact hj2)
          clear hc hj hj2
          gi_wp2_with fail
          go_roundw
          case rel => exact ⟨i + 1, by omega, by rw [show p.x.lo + ((i + 1 : Nat) : Int) = p.x.lo + i + 1 by omega], HJ2.out⟩
          case measure => simp [intOf]; omega
    · obtain rfl : i = nx := by omega
      have hle : ¬ (p.x.lo + (i : Int) ≤ p.x.hi) := by omega
      have HE := Lib.hid (show J (movesL p).length wr by rw [HLE.out]; exact hj)
      clear hc hj hW c2
      gi_wp2_with fail
      go_end0
      exact ⟨⟨_, rfl⟩, HE.out⟩

end Go.Proofs.Ytpmafnifgegfbaa
