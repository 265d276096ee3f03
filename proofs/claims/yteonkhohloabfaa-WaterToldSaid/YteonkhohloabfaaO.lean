/- Tables of ranges in memory: rows of ranges, one behind the other, with a range beside each. -/
import Derived.Test.YteonkhohloabfaaM
import Derived.Laws.MakeOwn
namespace Go.Proofs.Yteonkhohloabfaa
open Go.RowKit

def rowCs (n : Nat) (lo hi : Nat → Int) : Array Value := Array.ofFn (n := n * 2) fun q => if q.val % 2 = 0 then vi (lo (q.val / 2)) else vi (hi (q.val / 2))
theorem rowCs_lo {n : Nat} (lo hi : Nat → Int) {i : Nat} (h : i < n) : (rowCs n lo hi)[i * 2]? = some (vi (lo i)) := by
  unfold rowCs
  rw [Array.getElem?_ofFn, dif_pos (by omega)]
  simp
theorem rowCs_hi {n : Nat} (lo hi : Nat → Int) {i : Nat} (h : i < n) : (rowCs n lo hi)[i * 2 + 1]? = some (vi (hi i)) := by
  unfold rowCs
  rw [Array.getElem?_ofFn, dif_pos (by omega)]
  have h1 : (i * 2 + 1) % 2 = 1 := by omega
  have h2 : (i * 2 + 1) / 2 = i := by omega
  simp [h1, h2]
theorem rowCs_set_lo {n : Nat} (lo hi lo' : Nat → Int) {i : Nat} (h : i < n) (x : Int) (he : ∀ j, j < n → lo' j = if j = i then x else lo j) : (rowCs n lo hi).setIfInBounds (i * 2) (vi x) = rowCs n lo' hi := by
  apply Array.ext
  · simp [rowCs]
  · intro q h1 h2
    have hq : q < n * 2 := by simpa [rowCs] using h2
    rw [Array.getElem_setIfInBounds (by simpa [rowCs] using hq)]
    simp only [rowCs, Array.getElem_ofFn]
    by_cases hqi : i * 2 = q
    · subst hqi
      have h3 : i * 2 % 2 = 0 := by omega
      have h4 : i * 2 / 2 = i := by omega
      simp [h3, he i h]
    · rw [if_neg hqi]
      by_cases h3 : q % 2 = 0
      · rw [if_pos h3, if_pos h3, he (q / 2) (by omega), if_neg (by omega)]
      · rw [if_neg h3, if_neg h3]
theorem rowCs_set_hi {n : Nat} (lo hi hi' : Nat → Int) {i : Nat} (h : i < n) (x : Int) (he : ∀ j, j < n → hi' j = if j = i then x else hi j) : (rowCs n lo hi).setIfInBounds (i * 2 + 1) (vi x) = rowCs n lo hi' := by
  apply Array.ext
  · simp [rowCs]
  · intro q h1 h2
    have hq : q < n * 2 := by simpa [rowCs] using h2
    rw [Array.getElem_setIfInBounds (by simpa [rowCs] using hq)]
    simp only [rowCs, Array.getElem_ofFn]
    by_cases hqi : i * 2 + 1 = q
    · subst hqi
      have h4 : (i * 2 + 1) / 2 = i := by omega
      simp [h4, he i h]
    · rw [if_neg hqi]
      by_cases h3 : q % 2 = 0
      · rw [if_pos h3, if_pos h3]
      · rw [if_neg h3, if_neg h3, he (q / 2) (by omega), if_neg (by omega)]
theorem rowCs_made (n : Nat) : madeCells #[Value.int .i64 0, Value.int .i64 0] (n * 2) = rowCs n (fun _ => 0) (fun _ => 0) := by
  apply Array.ext
  · simp [madeCells, rowCs]
  · intro q h1 h2
    simp only [madeCells, rowCs, Array.getElem_map, Array.getElem_ofFn]
    have h3 : (Array.range (n * 2))[q]'(by simpa [madeCells] using h1) = q := by simp
    rw [h3]
    rcases Nat.mod_two_eq_zero_or_one q with h | h <;> simp [h]
theorem rowCs_congr {n : Nat} {lo hi lo' hi' : Nat → Int} (h1 : ∀ i, i < n → lo i = lo' i) (h2 : ∀ i, i < n → hi i = hi' i) : rowCs n lo hi = rowCs n lo' hi' := by
  apply Array.ext
  · simp [rowCs]
  · intro q a b
    have hq : q < n * 2 := by simpa [rowCs] using b
    simp only [rowCs, Array.getElem_ofFn]
    by_cases h3 : q % 2 = 0
    · rw [if_pos h3, if_pos h3, h1 _ (by omega)]
    · rw [if_neg h3, if_neg h3, h2 _ (by omega)]

/-- k rows of n ranges each, and a range beside each. -/
structure Tab (W : World) (base n : Nat) (v1 v2 : Value) (gb : Nat → Nat) (k : Nat) (lo hi : Nat → Nat → Int) (sl sh : Nat → Int) : Prop where
  own1 : W.ownsRow base 31 1 v1 k ((List.range k).map fun j => .slice (some ⟨gb j, 0, none⟩) n n)
  own2 : W.ownsRow base 36 2 v2 k ((List.range k).flatMap fun j => [vi (sl j), vi (sh j)])
  rows : ∀ j, j < k → Whole W (gb j) 36 (rowCs n (lo j) (hi j))
  low : ∀ j, j < k → base ≤ gb j
  apart1 : ∀ i j, i < k → j < k → gb i = gb j → i = j
  apart2 : ∀ j, j < k → v2.ownBlock ≠ some (gb j)
section
variable {W W' : World} {base n : Nat} {v1 v2 : Value} {gb : Nat → Nat} {k : Nat} {lo hi : Nat → Nat → Int} {sl sh : Nat → Int}
theorem Tab.newer (h : Tab W base n v1 v2 gb k lo hi sl sh) (hb : newer W W') : Tab W' base n v1 v2 gb k lo hi sl sh :=
  ⟨own_below h.own1 hb, own_below h.own2 hb, fun j hj => (h.rows j hj).below hb (h.rows j hj).lt, h.low, h.apart1, h.apart2⟩
theorem Tab.free (h : Tab W base n v1 v2 gb k lo hi sl sh) {x : Nat} (hg : W.grownBy W' (some x)) (h1 : v1.ownBlock ≠ some x) (h2 : v2.ownBlock ≠ some x) (h3 : ∀ j, j < k → gb j ≠ x) : Tab W' base n v1 v2 gb k lo hi sl sh :=
  ⟨h.own1.kept hg (.inr h1), h.own2.kept hg (.inr h2), fun j hj => (h.rows j hj).grown hg (by intro e; injection e with e; exact h3 j hj e), h.low, h.apart1, h.apart2⟩
theorem Tab.old (h : Tab W base n v1 v2 gb k lo hi sl sh) {x : Nat} (hg : W.grownBy W' (some x)) (hx : x < base) : Tab W' base n v1 v2 gb k lo hi sl sh :=
  h.free hg (fun e => by have := own_ge h.own1 _ e; omega) (fun e => by have := own_ge h.own2 _ e; omega) (fun j hj e => by have := h.low j hj; omega)
theorem own_lt {w : World} {base : Nat} {e : TypeId} {size n : Nat} {v : Value} {xs : List Value} (h : w.ownsRow base e size v n xs) : ∀ k, v.ownBlock = some k → k < w.heap.size := by
  intro k hk
  rcases h.2 with ⟨rfl, _⟩ | ⟨g', cap, cur, rfl, hb, hh, _⟩
  · simp [Value.ownBlock] at hk
  · have e1 : g' = k := by simpa [Value.ownBlock] using hk
    subst e1
    exact (Array.getElem?_eq_some_iff.1 hh).1
theorem Tab.fresh (h : Tab W base n v1 v2 gb k lo hi sl sh) {x : Nat} (hg : W.grownBy W' (some x)) (hx : W.heap.size ≤ x) : Tab W' base n v1 v2 gb k lo hi sl sh :=
  h.free hg (fun e => by have := own_lt h.own1 _ e; omega) (fun e => by have := own_lt h.own2 _ e; omega) (fun j hj e => by have := (h.rows j hj).lt; omega)
theorem Tab.empty_ (W : World) (base n : Nat) (gb : Nat → Nat) (lo hi : Nat → Nat → Int) (sl sh : Nat → Int) : Tab W base n (.slice none 0 0) (.slice none 0 0) gb 0 lo hi sl sh :=
  ⟨⟨by simp, .inl ⟨rfl, rfl⟩⟩, ⟨by simp, .inl ⟨rfl, rfl⟩⟩, fun j hj => by omega, fun j hj => by omega, fun i j hi => by omega, fun j hj => by omega⟩
end
end Go.Proofs.Yteonkhohloabfaa
