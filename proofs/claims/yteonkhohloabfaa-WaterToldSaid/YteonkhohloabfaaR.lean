/- Levels, in its second loop: the greater ends are laid beside the lesser ones. -/
import Derived.Test.YteonkhohloabfaaN
import Derived.Laws.OwnMore
namespace Go.Proofs.Yteonkhohloabfaa
open Go.RowKit

theorem flat2_len (a b : Nat → Value) (N : Nat) : ((List.range N).flatMap fun j => [a j, b j]).length = N * 2 := by
  induction N with
  | zero => rfl
  | succ N ih => rw [List.range_succ, List.flatMap_append, List.length_append, ih]; simp; omega
theorem flat2_get (a b : Nat → Value) (N i : Nat) (h : i < N * 2) : ((List.range N).flatMap fun j => [a j, b j])[i]? = some (if i % 2 = 0 then a (i / 2) else b (i / 2)) := by
  induction N with
  | zero => omega
  | succ N ih =>
    rw [List.range_succ, List.flatMap_append]
    by_cases hi : i < N * 2
    · rw [List.getElem?_append_left (by rw [flat2_len]; exact hi)]
      exact ih hi
    · rw [List.getElem?_append_right (by rw [flat2_len]; omega), flat2_len]
      have : i = N * 2 ∨ i = N * 2 + 1 := by omega
      rcases this with rfl | rfl
      · have h1 : N * 2 % 2 = 0 := by omega
        have h2 : N * 2 / 2 = N := by omega
        simp [h1, h2]
      · have h1 : (N * 2 + 1) % 2 = 1 := by omega
        have h2 : (N * 2 + 1) / 2 = N := by omega
        have h3 : N * 2 + 1 - N * 2 = 1 := by omega
        simp [h1, h2, h3]
theorem flat2_set (a b b' : Nat → Value) (N k : Nat) (hk : k < N) (u : Value) (hb : ∀ j, j < N → b' j = if j = k then u else b j) : ((List.range N).flatMap fun j => [a j, b j]).set (k * 2 + 1) u = (List.range N).flatMap fun j => [a j, b' j] := by
  apply List.ext_getElem?
  intro i
  by_cases hi : i < N * 2
  · rw [List.getElem?_set]
    rw [flat2_get a b' N i hi]
    by_cases e : k * 2 + 1 = i
    · subst e
      have h1 : (k * 2 + 1) % 2 = 1 := by omega
      have h2 : (k * 2 + 1) / 2 = k := by omega
      rw [if_pos rfl, if_pos (by rw [flat2_len]; omega), h1, h2, hb k hk, if_neg (by decide), if_pos rfl]
    · rw [if_neg e, flat2_get a b N i hi]
      by_cases h1 : i % 2 = 0
      · rw [if_pos h1, if_pos h1]
      · rw [if_neg h1, if_neg h1, hb (i / 2) (by omega), if_neg (by omega)]
  · rw [List.getElem?_eq_none (by rw [List.length_set, flat2_len]; omega), List.getElem?_eq_none (by rw [flat2_len]; omega)]

section
variable {W W' : World} {base n : Nat} {v1 v2 : Value} {gb : Nat → Nat} {N : Nat} {lo hi : Nat → Nat → Int} {sl sh : Nat → Int}
theorem Tab.setHi (h : Tab W base n v1 v2 gb N lo hi sl sh) {k : Nat} (hk : k < N) (hg : W.grownBy W' (some (gb k))) {hi' : Nat → Nat → Int} (hr : Whole W' (gb k) 36 (rowCs n (lo k) (hi' k))) (he : ∀ j, j < N → j ≠ k → hi' j = hi j) : Tab W' base n v1 v2 gb N lo hi' sl sh := by
  refine ⟨h.own1.kept hg (.inr (own_ne h.own1 (h.rows k hk) (by decide))), h.own2.kept hg (.inr (h.apart2 k hk)), fun j hj => ?_, h.low, h.apart1, h.apart2⟩
  by_cases e : j = k
  · subst e; exact hr
  · rw [he j hj e]
    exact (h.rows j hj).grown hg (by intro e'; injection e' with e'; exact e (h.apart1 j k hj hk e'))
theorem Tab.form1 (h : Tab W base n v1 v2 gb N lo hi sl sh) (hN : 0 < N) : ∃ q c, v1 = .slice (some ⟨q, 0, none⟩) N c := by
  rcases h.own1.2 with ⟨_, h0⟩ | ⟨g, cap, _, rfl, _⟩
  · omega
  · exact ⟨g, cap, rfl⟩
theorem Tab.form2 (h : Tab W base n v1 v2 gb N lo hi sl sh) (hN : 0 < N) : ∃ q c, v2 = .slice (some ⟨q, 0, none⟩) N c := by
  rcases h.own2.2 with ⟨_, h0⟩ | ⟨g, cap, _, rfl, _⟩
  · omega
  · exact ⟨g, cap, rfl⟩
theorem Tab.at1 {q c : Nat} (h : Tab W base n (.slice (some ⟨q, 0, none⟩) N c) v2 gb N lo hi sl sh) {k : Nat} (hk : k < N) : W.cell? ⟨q, k, none⟩ = some (.slice (some ⟨gb k, 0, none⟩) n n) := by
  rw [h.own1.cellAt k (by omega)]
  simp [hk]
theorem Tab.at2 {q c : Nat} (h : Tab W base n v1 (.slice (some ⟨q, 0, none⟩) N c) gb N lo hi sl sh) {k : Nat} (hk : k < N) : W.cell? ⟨q, k * 2, none⟩ = some (vi (sl k)) ∧ W.cell? ⟨q, k * 2 + 1, none⟩ = some (vi (sh k)) := by
  refine ⟨?_, ?_⟩
  · rw [h.own2.cellAt _ (by omega), flat2_get (fun j => vi (sl j)) (fun j => vi (sh j)) _ _ (by omega), if_pos (by omega)]
    rw [show k * 2 / 2 = k by omega]
  · rw [h.own2.cellAt _ (by omega), flat2_get (fun j => vi (sl j)) (fun j => vi (sh j)) _ _ (by omega), if_neg (by omega)]
    rw [show (k * 2 + 1) / 2 = k by omega]
theorem Tab.setSnow {q c : Nat} (h : Tab W base n v1 (.slice (some ⟨q, 0, none⟩) N c) gb N lo hi sl sh) {k : Nat} (hk : k < N) (x : Int) {sh' : Nat → Int} (he : ∀ j, j < N → sh' j = if j = k then x else sh j) : Tab (W.setCell ⟨q, k * 2 + 1, none⟩ (vi x)) base n v1 (.slice (some ⟨q, 0, none⟩) N c) gb N lo hi sl sh' := by
  obtain ⟨h1, h2⟩ := h.own2.stored (k * 2 + 1) (vi x)
  rw [flat2_set (fun j => vi (sl j)) (fun j => vi (sh j)) (fun j => vi (sh' j)) N k hk (vi x) (fun j hj => by rw [he j hj]; split <;> rfl)] at h1
  have ha := h.apart2
  refine ⟨h.own1.kept h2 (.inr (fun e => own_own_ne h.own1 h.own2 (by decide) q e rfl)), h1, fun j hj => (h.rows j hj).grown h2 (by intro e; exact ha j hj (by simpa [Value.ownBlock] using e.symm)), h.low, h.apart1, h.apart2⟩
end

theorem Tab.congr {W : World} {base n : Nat} {v1 v2 : Value} {gb : Nat → Nat} {N : Nat} {lo hi hi' : Nat → Nat → Int} {sl sh : Nat → Int} (h : Tab W base n v1 v2 gb N lo hi sl sh) (he : ∀ j i, j < N → i < n → hi j i = hi' j i) : Tab W base n v1 v2 gb N lo hi' sl sh :=
  ⟨h.own1, h.own2, fun j hj => by rw [← rowCs_congr (fun _ _ => rfl) (fun i hi => he j i hj hi)]; exact h.rows j hj, h.low, h.apart1, h.apart2⟩
theorem flat2_congr (a b b' : Nat → Value) (N : Nat) (h : ∀ j, j < N → b j = b' j) : ((List.range N).flatMap fun j => [a j, b j]) = (List.range N).flatMap fun j => [a j, b' j] := by
  apply List.ext_getElem?
  intro i
  by_cases hi : i < N * 2
  · rw [flat2_get a b N i hi, flat2_get a b' N i hi, h (i / 2) (by omega)]
  · rw [List.getElem?_eq_none (by rw [flat2_len]; omega), List.getElem?_eq_none (by rw [flat2_len]; omega)]
theorem Tab.congrS {W : World} {base n : Nat} {v1 v2 : Value} {gb : Nat → Nat} {N : Nat} {lo hi : Nat → Nat → Int} {sl sh sh' : Nat → Int} (h : Tab W base n v1 v2 gb N lo hi sl sh) (he : ∀ j, j < N → sh j = sh' j) : Tab W base n v1 v2 gb N lo hi sl sh' :=
  ⟨h.own1, by rw [← flat2_congr (fun j => vi (sl j)) (fun j => vi (sh j)) (fun j => vi (sh' j)) N (fun j hj => by rw [he j hj])]; exact h.own2, h.rows, h.low, h.apart1, h.apart2⟩
/-- What Levels leaves, where the ground with its days is valid. -/
def levelsOut (w : World) (g : Gnd) (days : List Day) (e : Ending) (w' : World) : Prop :=
  ∃ v1 v2 gb base, e = .returned (.tuple #[v1, v2, .int .i64 0]) ∧ w.heap.size ≤ base ∧
    Tab w' base g.cells.length v1 v2 gb days.length (fun j i => (stE false g days (j + 1)).f i) (fun j i => (stE true g days (j + 1)).f i) (fun j => (stE false g days (j + 1)).snow) (fun j => (stE true g days (j + 1)).snow) ∧ Below w.heap.size w w'
/-- Levels, in its second loop. -/
structure LvK (w w3 w4 : World) (n lo hb : Nat) (sH : Way) (x : St) (r : Loop) (v1 v2 : Value) (gb : Nat → Nat) (N : Nat) (lw hi : Nat → Nat → Int) (sl sh : Nat → Int) (W : World) : Prop where
  loop : W.heap[w4.heap.size + 1 + 1]? = some (.loop r)
  dfr : W.heap[w4.heap.size + 1]? = some (.deferred (some []))
  dfr1 : W.heap[w3.heap.size + 1]? = some (.deferred (some []))
  box : Whole W w4.heap.size 107 #[.pointer (some ⟨hb, 0, none⟩)]
  keep : Kept (fun i => i = w.heap.size + 1 ∨ i = w.heap.size + 1 + 1 ∨ i = lo ∨ i = hb) w3 W
  l1 : Whole W (w.heap.size + 1) 30 #[v1]
  l2 : Whole W (w.heap.size + 1 + 1) 31 #[v2]
  high : OnWay W hb sH x.f x.snow x.left
  tab : Tab W (w3.heap.size + 1 + 1 + 1) n v1 v2 gb N lw hi sl sh
  far : w.heap.size + 1 + 1 < hb ∧ hb < w3.heap.size ∧ w3.heap.size + 1 + 1 < w4.heap.size
  lt1 : ∀ q, v1.ownBlock = some q → q < w4.heap.size
  lt2 : ∀ q, v2.ownBlock = some q → q < w4.heap.size
  lt3 : ∀ j, j < N → gb j < w4.heap.size
section
variable {w w3 w4 : World} {n lo hb : Nat} {sH : Way} {x : St} {r : Loop} {v1 v2 : Value} {gb : Nat → Nat} {N : Nat} {lw hi : Nat → Nat → Int} {sl sh : Nat → Int} {W W' : World}
theorem LvK.way (h : LvK w w3 w4 n lo hb sH x r v1 v2 gb N lw hi sl sh W) (hg : W.grownBy W' (some hb)) {x' : St} (hw : OnWay W' hb sH x'.f x'.snow x'.left) : LvK w w3 w4 n lo hb sH x' r v1 v2 gb N lw hi sl sh W' := by
  have hs := (Array.getElem?_eq_some_iff.1 h.loop).1
  have hf := h.far
  exact ⟨(hg.block _ hs (by intro e; injection e; omega)).trans h.loop, (hg.block _ (by omega) (by intro e; injection e; omega)).trans h.dfr, (hg.block _ (by omega) (by intro e; injection e; omega)).trans h.dfr1, h.box.grown hg (by intro e; injection e; omega), h.keep.grown hg (.inl (.inr (.inr (.inr rfl)))), h.l1.grown hg (by intro e; injection e; omega), h.l2.grown hg (by intro e; injection e; omega), hw, h.tab.old hg (by omega), hf, h.lt1, h.lt2, h.lt3⟩
theorem LvK.put (h : LvK w w3 w4 n lo hb sH x r v1 v2 gb N lw hi sl sh W) (r' : Loop) : LvK w w3 w4 n lo hb sH x r' v1 v2 gb N lw hi sl sh (W.putObj (w4.heap.size + 1 + 1) (.loop r')) := by
  have hs := (Array.getElem?_eq_some_iff.1 h.loop).1
  have hf := h.far
  have hg := grown_putL W (w4.heap.size + 1 + 1) (.loop r')
  exact ⟨World.putObj_heap_same hs, (World.putObj_heap_other (by omega)).trans h.dfr, (World.putObj_heap_other (by omega)).trans h.dfr1, h.box.put (by omega) _, h.keep.grown hg (.inr (by omega)), h.l1.put (by omega) _, h.l2.put (by omega) _, h.high.put (by omega) _,
    h.tab.free hg (fun e => by have := h.lt1 _ e; omega) (fun e => by have := h.lt2 _ e; omega) (fun j hj e => by have := h.lt3 j hj; omega), hf, h.lt1, h.lt2, h.lt3⟩
theorem LvK.newer (h : LvK w w3 w4 n lo hb sH x r v1 v2 gb N lw hi sl sh W) (hb' : newer W W') : LvK w w3 w4 n lo hb sH x r v1 v2 gb N lw hi sl sh W' := by
  have hs := (Array.getElem?_eq_some_iff.1 h.loop).1
  have hf := h.far
  exact ⟨(hb'.block _ hs).trans h.loop, (hb'.block _ (by omega)).trans h.dfr, (hb'.block _ (by omega)).trans h.dfr1, h.box.below hb' h.box.lt, h.keep.newer hb', h.l1.below hb' h.l1.lt, h.l2.below hb' h.l2.lt, h.high.below hb' h.high.blk.lt, h.tab.newer hb', hf, h.lt1, h.lt2, h.lt3⟩
/-- A block of the table turns. -/
theorem LvK.turn (h : LvK w w3 w4 n lo hb sH x r v1 v2 gb N lw hi sl sh W) {q : Nat} (hg : W.grownBy W' (some q)) (hq : w3.heap.size + 1 + 1 + 1 ≤ q) (hq' : q < w4.heap.size) {hi' : Nat → Nat → Int} {sh' : Nat → Int} (ht : Tab W' (w3.heap.size + 1 + 1 + 1) n v1 v2 gb N lw hi' sl sh') : LvK w w3 w4 n lo hb sH x r v1 v2 gb N lw hi' sl sh' W' := by
  have hs := (Array.getElem?_eq_some_iff.1 h.loop).1
  have hf := h.far
  exact ⟨(hg.block _ hs (by intro e; injection e; omega)).trans h.loop, (hg.block _ (by omega) (by intro e; injection e; omega)).trans h.dfr, (hg.block _ (by omega) (by intro e; injection e; omega)).trans h.dfr1, h.box.grown hg (by intro e; injection e; omega), h.keep.grown hg (.inr (by omega)), h.l1.grown hg (by intro e; injection e; omega), h.l2.grown hg (by intro e; injection e; omega), h.high.below (below_of_grown hg hq (by omega)) (by omega), ht, hf, h.lt1, h.lt2, h.lt3⟩
end
end Go.Proofs.Yteonkhohloabfaa
