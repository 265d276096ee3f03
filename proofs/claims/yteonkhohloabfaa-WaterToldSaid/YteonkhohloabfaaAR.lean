/- Run: the structures of its loop, and what it leaves. -/
import Derived.Test.YteonkhohloabfaaAQ
import Derived.Test.YteonkhohloabfaaAP
namespace Go.Proofs.Yteonkhohloabfaa
open Go.RowKit Go.Shelf

theorem Row.grownNe {α : Type} {enc : α → List Value} {s B B' : Nat} {W W' : World} {A : Option Addr} {l : List α} (h : Row enc s W B A l) {row : Option Nat} (hg : W.grownBy W' row) (hB : B ≤ W.heap.size) (hB' : B ≤ B') (hx : ∀ a, A = some a → row ≠ some a.block) : Row enc s W' B' A l := by
  intro hl
  obtain ⟨b, off, e, hb, hc⟩ := h hl
  exact ⟨b, off, e, by omega, fun k x hk j v hv => (World.cell?_of_block (hg.block b (by omega) (fun e' => hx _ e (by rw [← e'])))).trans (hc k x hk j v hv)⟩

/-- k rows of n numbers each, and a number beside each. -/
structure TabR (W : World) (base n : Nat) (v1 v2 : Value) (A : Nat → Option Addr) (c : Nat → Nat) (k : Nat) (f : Nat → Nat → Int) (sl : Nat → Int) : Prop where
  own1 : W.ownsRow base 43 1 v1 k ((List.range k).map fun j => .slice (A j) n (c j))
  own2 : W.ownsRow base 3 1 v2 k ((List.range k).map fun j => vi (sl j))
  rows : ∀ j, j < k → Row intL 1 W W.heap.size (A j) ((List.range n).map (f j))
  low : ∀ j, j < k → ∀ a, A j = some a → base ≤ a.block ∧ a.block < W.heap.size
  apart1 : ∀ j, j < k → ∀ a, A j = some a → v1.ownBlock ≠ some a.block
  apart2 : ∀ j, j < k → ∀ a, A j = some a → v2.ownBlock ≠ some a.block
section
variable {W W' : World} {base n : Nat} {v1 v2 : Value} {A : Nat → Option Addr} {c : Nat → Nat} {k : Nat} {f : Nat → Nat → Int} {sl : Nat → Int}
theorem TabR.newer (h : TabR W base n v1 v2 A c k f sl) (hb : newer W W') : TabR W' base n v1 v2 A c k f sl :=
  ⟨own_below h.own1 hb, own_below h.own2 hb, fun j hj => ((h.rows j hj).below hb).more hb.size, fun j hj a e => ⟨(h.low j hj a e).1, Nat.lt_of_lt_of_le (h.low j hj a e).2 hb.size⟩, h.apart1, h.apart2⟩
theorem TabR.free (h : TabR W base n v1 v2 A c k f sl) {x : Nat} (hg : W.grownBy W' (some x)) (h1 : v1.ownBlock ≠ some x) (h2 : v2.ownBlock ≠ some x) (h3 : ∀ j, j < k → ∀ a, A j = some a → a.block ≠ x) : TabR W' base n v1 v2 A c k f sl :=
  ⟨h.own1.kept hg (.inr h1), h.own2.kept hg (.inr h2), fun j hj => (h.rows j hj).grownNe hg (Nat.le_refl _) hg.size (fun a e e' => by injection e' with e'; exact h3 j hj a e e'.symm), fun j hj a e => ⟨(h.low j hj a e).1, Nat.lt_of_lt_of_le (h.low j hj a e).2 hg.size⟩, h.apart1, h.apart2⟩
theorem TabR.old (h : TabR W base n v1 v2 A c k f sl) {x : Nat} (hg : W.grownBy W' (some x)) (hx : x < base) : TabR W' base n v1 v2 A c k f sl :=
  h.free hg (fun e => by have := own_ge h.own1 _ e; omega) (fun e => by have := own_ge h.own2 _ e; omega) (fun j hj a e => by have := h.low j hj a e; omega)
theorem TabR.empty_ (W : World) (base n : Nat) (A : Nat → Option Addr) (c : Nat → Nat) (f : Nat → Nat → Int) (sl : Nat → Int) : TabR W base n (.slice none 0 0) (.slice none 0 0) A c 0 f sl :=
  ⟨⟨by simp, .inl ⟨rfl, rfl⟩⟩, ⟨by simp, .inl ⟨rfl, rfl⟩⟩, fun j hj => by omega, fun j hj => by omega, fun j hj => by omega, fun j hj => by omega⟩
end

theorem TabR.add {w7 W w8 : World} {base n : Nat} {v1 v2 : Value} {A : Nat → Option Addr} {c : Nat → Nat} {k : Nat} {f : Nat → Nat → Int} {sl : Nat → Int} {B : Option Addr} {cb : Nat} {g1 c1 g2 c2 : Nat} (h : TabR w7 base n v1 v2 A c k f sl) (hr : Row intL 1 W W.heap.size B ((List.range n).map (f k))) (hrb : ∀ a, B = some a → w7.heap.size ≤ a.block ∧ a.block < W.heap.size) (hbw : base ≤ w7.heap.size)
    (hg1 : w7.grownBy W v1.ownBlock) (ho1 : W.ownsRow base 43 1 (.slice (some ⟨g1, 0, none⟩) (k + 1) c1) (k + 1) (((List.range k).map fun j => Value.slice (A j) n (c j)) ++ [.slice B n cb])) (hat1 : v1.ownBlock = some g1 ∨ w7.heap.size ≤ g1) (hg1B : ∀ a, B = some a → a.block ≠ g1)
    (hg2 : W.grownBy w8 v2.ownBlock) (ho2 : w8.ownsRow base 3 1 (.slice (some ⟨g2, 0, none⟩) (k + 1) c2) (k + 1) (((List.range k).map fun j => vi (sl j)) ++ [vi (sl k)])) (hat : v2.ownBlock = some g2 ∨ W.heap.size ≤ g2) :
    TabR w8 base n (.slice (some ⟨g1, 0, none⟩) (k + 1) c1) (.slice (some ⟨g2, 0, none⟩) (k + 1) c2) (fun j => if j = k then B else A j) (fun j => if j = k then cb else c j) (k + 1) f sl := by
  have ne12 : ∀ q, v1.ownBlock = some q → v2.ownBlock ≠ some q := own_own_ne h.own1 h.own2 (by decide)
  have o2lt := own_lt h.own2
  have o2W : W.ownsRow base 3 1 v2 k ((List.range k).map fun j => vi (sl j)) := by
    rcases Option.eq_none_or_eq_some v2.ownBlock with e | ⟨q, e⟩
    · exact h.own2.kept hg1 (.inl e)
    · exact h.own2.kept hg1 (.inr (fun e' => own_own_ne h.own2 h.own1 (by decide) q e (e'.symm.trans e)))
  have o1W : w8.ownsRow base 43 1 (.slice (some ⟨g1, 0, none⟩) (k + 1) c1) (k + 1) (((List.range k).map fun j => Value.slice (A j) n (c j)) ++ [.slice B n cb]) :=
    ho1.kept hg2 (.inr (fun e' => own_own_ne ho1 o2W (by decide) g1 rfl e'.symm))
  have hs1 := hg1.size
  have hs2 := hg2.size
  have hB2 : ∀ a, B = some a → v2.ownBlock ≠ some a.block := fun a e e' => by
    have := o2lt _ e'
    have := (hrb a e).1
    omega
  refine ⟨?_, ?_, ?_, ?_, ?_, ?_⟩
  · have e : ((List.range (k + 1)).map fun j => Value.slice (if j = k then B else A j) n (if j = k then cb else c j)) = ((List.range k).map fun j => Value.slice (A j) n (c j)) ++ [.slice B n cb] := by
      rw [List.range_succ, List.map_append]
      congr 1
      · apply List.map_congr_left
        intro j hj
        have := List.mem_range.1 hj
        rw [if_neg (by omega), if_neg (by omega)]
      · simp
    rw [e]
    exact o1W
  · rw [List.range_succ, List.map_append]
    exact ho2
  · intro j hj
    by_cases e : j = k
    · subst e
      skip
      rw [if_pos rfl]
      exact hr.grownNe hg2 (Nat.le_refl _) hg2.size (fun a e => hB2 a e)
    · skip
      rw [if_neg e]
      exact ((h.rows j (by omega)).grownNe hg1 (Nat.le_refl _) hg1.size (fun a ea => h.apart1 j (by omega) a ea)).grownNe hg2 (Nat.le_refl _) hg2.size (fun a ea => h.apart2 j (by omega) a ea)
  · intro j hj a ea
    skip
    by_cases e : j = k
    · rw [if_pos e] at ea
      have := hrb a ea
      omega
    · rw [if_neg e] at ea
      have := h.low j (by omega) a ea
      omega
  · intro j hj a ea e'
    skip
    have e' : g1 = a.block := by simpa [Value.ownBlock] using e'
    by_cases e : j = k
    · rw [if_pos e] at ea
      exact hg1B a ea e'.symm
    · rw [if_neg e] at ea
      rcases hat1 with h1 | h1
      · exact h.apart1 j (by omega) a ea (by rw [h1, e'])
      · have := (h.low j (by omega) a ea).2
        omega
  · intro j hj a ea e'
    skip
    have e' : g2 = a.block := by simpa [Value.ownBlock] using e'
    by_cases e : j = k
    · rw [if_pos e] at ea
      rcases hat with h1 | h1
      · exact hB2 a ea (by rw [h1, e'])
      · have := (hrb a ea).2
        omega
    · rw [if_neg e] at ea
      rcases hat with h1 | h1
      · exact h.apart2 j (by omega) a ea (by rw [h1, e'])
      · have := (h.low j (by omega) a ea).2
        omega

/-- The boxes of Run, ahead of the days. -/
structure RnA (w : World) (gcs tcs : Array Value) (W : World) : Prop where
  below : Below w.heap.size w W
  gb : Whole W w.heap.size 38 gcs
  tb : Whole W (w.heap.size + 1) 63 tcs
  l1 : Whole W (w.heap.size + 1 + 1) 60 #[.slice none 0 0]
  l2 : Whole W (w.heap.size + 1 + 1 + 1) 43 #[.slice none 0 0]
theorem RnA.made (w : World) (gcs tcs : Array Value) : RnA w gcs tcs ((((w.alloc (.cells gcs 38)).alloc (.cells tcs 63)).alloc (.cells #[.slice none 0 0] 60)).alloc (.cells #[.slice none 0 0] 43)) := by
  refine ⟨((((Below.refl _ _).alloc (Nat.le_refl _) _).alloc (by simp) _).alloc (by simp; omega) _).alloc (by simp; omega) _, ?_, ?_, ?_, ?_⟩
  · (simp only [Whole, heap_if, World.size_alloc]; (repeat rw [if_neg (by omega)]); rfl)
  · (simp only [Whole, heap_if, World.size_alloc]; (repeat rw [if_neg (by omega)]); rfl)
  · (simp only [Whole, heap_if, World.size_alloc]; (repeat rw [if_neg (by omega)]); rfl)
  · (simp only [Whole, heap_if, World.size_alloc]; (repeat rw [if_neg (by omega)]); rfl)
theorem RnA.later {w : World} {gcs tcs : Array Value} {W W' : World} (h : RnA w gcs tcs W) (hb : newer W W') : RnA w gcs tcs W' := ⟨below_next h.below hb, h.gb.below hb h.gb.lt, h.tb.below hb h.tb.lt, h.l1.below hb h.l1.lt, h.l2.below hb h.l2.lt⟩

/-- A ground on its way, in any truth that fits. -/
def trWay (g : Gnd) (A : Option Addr) (ap : Nat) (days : List Day) (D : Option Addr) (dp : Nat) (snow soak : Int) (lv : List Int) (L : Option Addr) (lp : Nat) (rn : List Int) (R : Option Addr) (rp : Nat) : Way :=
  ⟨g.cells, A, ap, g.slo, g.shi, g.klo, g.khi, g.melt, days, D, dp, snow, soak, lv, L, lp, rn, R, rp⟩
/-- The state after k days, in any truth. -/
def stR (g : Gnd) (days : List Day) (snow soak : Int) (lv rn : List Int) (k : Nat) : St := stAt g.cells g.melt soak days rn ⟨iAt lv, snow, 0⟩ k

/-- Run, its way begun. -/
structure RnB (w : World) (s : Way) (x : St) (lv lb : Nat) (W : World) : Prop where
  below : Below w.heap.size w W
  l1 : Whole W (w.heap.size + 1 + 1) 60 #[.slice none 0 0]
  l2 : Whole W (w.heap.size + 1 + 1 + 1) 43 #[.slice none 0 0]
  var : Whole W lv 107 #[.pointer (some ⟨lb, 0, none⟩)]
  way : OnWay W lb s x.f x.snow x.left
  far1 : w.heap.size + 1 + 1 + 1 < lv
  far2 : w.heap.size + 1 + 1 + 1 < lb
  ne : lv ≠ lb

/-- Run, in its loop. -/
structure RnJ (w w3 : World) (n lb : Nat) (s : Way) (x : St) (r : Loop) (v1 v2 : Value) (A : Nat → Option Addr) (c : Nat → Nat) (k : Nat) (f : Nat → Nat → Int) (sl : Nat → Int) (W : World) : Prop where
  loop : W.heap[w3.heap.size + 1 + 1]? = some (.loop r)
  dfr : W.heap[w3.heap.size + 1]? = some (.deferred (some []))
  box : Whole W w3.heap.size 107 #[.pointer (some ⟨lb, 0, none⟩)]
  keep : Kept (fun i => i = w.heap.size + 1 + 1 ∨ i = w.heap.size + 1 + 1 + 1 ∨ i = lb) w3 W
  l1 : Whole W (w.heap.size + 1 + 1) 60 #[v1]
  l2 : Whole W (w.heap.size + 1 + 1 + 1) 43 #[v2]
  way' : OnWay W lb s x.f x.snow x.left
  tab : TabR W (w3.heap.size + 1 + 1 + 1) n v1 v2 A c k f sl
  far : w.heap.size + 1 + 1 + 1 < lb ∧ lb < w3.heap.size
section
variable {w w3 : World} {n lb : Nat} {s : Way} {x : St} {r : Loop} {v1 v2 : Value} {A : Nat → Option Addr} {c : Nat → Nat} {k : Nat} {f : Nat → Nat → Int} {sl : Nat → Int} {W W' : World}
theorem RnJ.newer (h : RnJ w w3 n lb s x r v1 v2 A c k f sl W) (hb : newer W W') : RnJ w w3 n lb s x r v1 v2 A c k f sl W' := by
  have hs := (Array.getElem?_eq_some_iff.1 h.loop).1
  exact ⟨(hb.block _ hs).trans h.loop, (hb.block _ (by omega)).trans h.dfr, h.box.below hb h.box.lt, h.keep.newer hb, h.l1.below hb h.l1.lt, h.l2.below hb h.l2.lt, h.way'.below hb h.way'.blk.lt, h.tab.newer hb, h.far⟩
theorem RnJ.way (h : RnJ w w3 n lb s x r v1 v2 A c k f sl W) (hg : W.grownBy W' (some lb)) {x' : St} (hw : OnWay W' lb s x'.f x'.snow x'.left) : RnJ w w3 n lb s x' r v1 v2 A c k f sl W' := by
  have hs := (Array.getElem?_eq_some_iff.1 h.loop).1
  have hf := h.far
  exact ⟨(hg.block _ hs (by intro e; injection e; omega)).trans h.loop, (hg.block _ (by omega) (by intro e; injection e; omega)).trans h.dfr, h.box.grown hg (by intro e; injection e; omega), h.keep.grown hg (.inl (.inr (.inr rfl))), h.l1.grown hg (by intro e; injection e; omega), h.l2.grown hg (by intro e; injection e; omega), hw, h.tab.old hg (by omega), hf⟩
theorem RnJ.put (h : RnJ w w3 n lb s x r v1 v2 A c k f sl W) (r' : Loop) : RnJ w w3 n lb s x r' v1 v2 A c k f sl (W.putObj (w3.heap.size + 1 + 1) (.loop r')) := by
  have hs := (Array.getElem?_eq_some_iff.1 h.loop).1
  have hf := h.far
  have hg := grown_putL W (w3.heap.size + 1 + 1) (.loop r')
  exact ⟨World.putObj_heap_same hs, (World.putObj_heap_other (by omega)).trans h.dfr, h.box.put (by omega) _, h.keep.grown hg (.inr (by omega)), h.l1.put (by omega) _, h.l2.put (by omega) _, h.way'.put (by omega) _, h.tab.old hg (by omega), hf⟩
end

theorem Try.info43 : (Try.prog.info? 43).map (fun i => (i.zero, i.size, i.bytes)) = some (some (.slice none 0 0), 1, 24) := by kernel_rfl
theorem RnJ.add {w w3 : World} {n lb : Nat} {s : Way} {x : St} {r : Loop} {v1 v2 v1' v2' : Value} {A A' : Nat → Option Addr} {c c' : Nat → Nat} {k k' : Nat} {f f' : Nat → Nat → Int} {sl sl' : Nat → Int} {w7 W w8 : World} (h : RnJ w w3 n lb s x r v1 v2 A c k f sl w7) (hg1 : w7.grownBy W v1.ownBlock) (hg2 : W.grownBy w8 v2.ownBlock)
    (ht : TabR w8 (w3.heap.size + 1 + 1 + 1) n v1' v2' A' c' k' f' sl') : RnJ w w3 n lb s x r v1' v2' A' c' k' f' sl' ((w8.setCell ⟨w.heap.size + 1 + 1, 0, none⟩ v1').setCell ⟨w.heap.size + 1 + 1 + 1, 0, none⟩ v2') := by
  have hs := (Array.getElem?_eq_some_iff.1 h.loop).1
  have hf := h.far
  have b1 : Below (w3.heap.size + 1 + 1 + 1) w7 W := below_grown hg1 (own_ge h.tab.own1) (by omega)
  have b2 : Below (w3.heap.size + 1 + 1 + 1) W w8 := below_grown hg2 (own_ge h.tab.own2) (by have := hg1.size; omega)
  have b := b1.trans b2
  have s1 := grown_set (p := ⟨w.heap.size + 1 + 1, 0, none⟩) (grown_refl w8 (some (w.heap.size + 1 + 1))) (.inl rfl) v1'
  have s2 := grown_set (p := ⟨w.heap.size + 1 + 1 + 1, 0, none⟩) (grown_refl (w8.setCell ⟨w.heap.size + 1 + 1, 0, none⟩ v1') (some (w.heap.size + 1 + 1 + 1))) (.inl rfl) v2'
  have z1 : w8.heap.size ≤ (w8.setCell ⟨w.heap.size + 1 + 1, 0, none⟩ v1').heap.size := s1.size
  have z0 : w3.heap.size + 1 + 1 < w8.heap.size := Nat.lt_of_lt_of_le hs b.size
  have same : ∀ i, i < w3.heap.size + 1 + 1 + 1 → i ≠ w.heap.size + 1 + 1 → i ≠ w.heap.size + 1 + 1 + 1 → ((w8.setCell ⟨w.heap.size + 1 + 1, 0, none⟩ v1').setCell ⟨w.heap.size + 1 + 1 + 1, 0, none⟩ v2').heap[i]? = w7.heap[i]? := fun i hi h1 h2 =>
    (s2.block i (by omega) (by intro e; injection e; omega)).trans ((s1.block i (by omega) (by intro e; injection e; omega)).trans (b.block i hi))
  refine ⟨(same _ (by omega) (by omega) (by omega)).trans h.loop, (same _ (by omega) (by omega) (by omega)).trans h.dfr, (same _ (by omega) (by omega) (by omega)).trans h.box, ?_, ?_, ?_, ?_, (ht.old s1 (by omega)).old s2 (by omega), hf⟩
  · exact ⟨b.os.trans h.keep.os, b.tape.trans h.keep.tape, b.output.trans h.keep.output, by have := h.keep.size; have := b.size; have := s2.size; omega, fun i hi hx => (same i (by omega) (by omega) (by omega)).trans (h.keep.block i hi hx)⟩
  · have w1 : Whole w8 (w.heap.size + 1 + 1) 60 #[v1] := h.l1.below b (by omega)
    exact (w1.set 0 v1').grown s2 (by intro e; injection e; omega)
  · have w1 : Whole w8 (w.heap.size + 1 + 1 + 1) 43 #[v2] := h.l2.below b (by omega)
    exact (w1.grown s1 (by intro e; injection e; omega)).set 0 v2'
  · have l8 := h.way'.below b (by omega)
    have w1 : Whole w8 (w.heap.size + 1 + 1) 60 #[v1] := h.l1.below b (by omega)
    have w2 : Whole (w8.setCell ⟨w.heap.size + 1 + 1, 0, none⟩ v1') (w.heap.size + 1 + 1 + 1) 43 #[v2] := (h.l2.below b (by omega)).grown s1 (by intro e; injection e; omega)
    obtain ⟨_, _, e1⟩ := own_form h.tab.own1
    obtain ⟨_, _, e2⟩ := own_form h.tab.own2
    exact (l8.var' (fun n e => by rw [e1] at e; cases e) (by decide) w1 _).var' (fun n e => by rw [e2] at e; cases e) (by decide) w2 _

theorem goodB_at {n : Nat} {p : Nat → Bool} (h : goodB n p = true) : ∀ j, j < n → p j = true := fun j hj => List.all_eq_true.1 h j (List.mem_range.2 hj)
theorem goodB_congr {n : Nat} {p q : Nat → Bool} (h : ∀ j, j < n → p j = q j) : goodB n p = goodB n q := by
  unfold goodB
  apply Bool.eq_iff_iff.2
  rw [List.all_eq_true, List.all_eq_true]
  constructor
  · intro h1 x hx
    rw [← h x (List.mem_range.1 hx)]
    exact h1 x hx
  · intro h1 x hx
    rw [h x (List.mem_range.1 hx)]
    exact h1 x hx

/-- What Run leaves. -/
def runOut (w : World) (g : Gnd) (days : List Day) (snow soak : Int) (lv rn : List Int) (e : Ending) (w' : World) : Prop :=
  (if faultN g days = 0 then (if fitsB g days snow soak lv rn = true then
      ∃ v1 v2 A c, e = .returned (.tuple #[v1, v2, vi (stR g days snow soak lv rn days.length).snow, vi 0]) ∧
        TabR w' w.heap.size g.cells.length v1 v2 A c days.length (fun j i => (stR g days snow soak lv rn (j + 1)).f i) (fun j => (stR g days snow soak lv rn (j + 1)).left)
    else e = .returned (.tuple #[.slice none 0 0, .slice none 0 0, vi 0, .int .i64 9]))
    else e = .returned (.tuple #[.slice none 0 0, .slice none 0 0, vi 0, vi (faultN g days)])) ∧ Below w.heap.size w w'
end Go.Proofs.Yteonkhohloabfaa
