/- A ground's levels after each day, with a soak (function 75). -/
import Derived.Test.YteonkhohloabfaaAU
namespace Go.Proofs.Yteonkhohloabfaa
open Go.RowKit Go.Shelf

/-- k rows of n numbers each. -/
structure TabQ (W : World) (base n : Nat) (v1 : Value) (A : Nat → Option Addr) (c : Nat → Nat) (k : Nat) (f : Nat → Nat → Int) : Prop where
  own1 : W.ownsRow base 43 1 v1 k ((List.range k).map fun j => .slice (A j) n (c j))
  rows : ∀ j, j < k → Row intL 1 W W.heap.size (A j) ((List.range n).map (f j))
  low : ∀ j, j < k → ∀ a, A j = some a → base ≤ a.block ∧ a.block < W.heap.size
  apart1 : ∀ j, j < k → ∀ a, A j = some a → v1.ownBlock ≠ some a.block
section
variable {W W' : World} {base n : Nat} {v1 : Value} {A : Nat → Option Addr} {c : Nat → Nat} {k : Nat} {f : Nat → Nat → Int}
theorem TabQ.newer (h : TabQ W base n v1 A c k f) (hb : newer W W') : TabQ W' base n v1 A c k f :=
  ⟨own_below h.own1 hb, fun j hj => ((h.rows j hj).below hb).more hb.size, fun j hj a e => ⟨(h.low j hj a e).1, Nat.lt_of_lt_of_le (h.low j hj a e).2 hb.size⟩, h.apart1⟩
theorem TabQ.free (h : TabQ W base n v1 A c k f) {x : Nat} (hg : W.grownBy W' (some x)) (h1 : v1.ownBlock ≠ some x) (h3 : ∀ j, j < k → ∀ a, A j = some a → a.block ≠ x) : TabQ W' base n v1 A c k f :=
  ⟨h.own1.kept hg (.inr h1), fun j hj => (h.rows j hj).grownNe hg (Nat.le_refl _) hg.size (fun a e e' => by injection e' with e'; exact h3 j hj a e e'.symm), fun j hj a e => ⟨(h.low j hj a e).1, Nat.lt_of_lt_of_le (h.low j hj a e).2 hg.size⟩, h.apart1⟩
theorem TabQ.old (h : TabQ W base n v1 A c k f) {x : Nat} (hg : W.grownBy W' (some x)) (hx : x < base) : TabQ W' base n v1 A c k f :=
  h.free hg (fun e => by have := own_ge h.own1 _ e; omega) (fun j hj a e => by have := h.low j hj a e; omega)
theorem TabQ.empty_ (W : World) (base n : Nat) (A : Nat → Option Addr) (c : Nat → Nat) (f : Nat → Nat → Int) : TabQ W base n (.slice none 0 0) A c 0 f :=
  ⟨⟨by simp, .inl ⟨rfl, rfl⟩⟩, fun j hj => by omega, fun j hj => by omega, fun j hj => by omega⟩
theorem TabQ.more {base' : Nat} (h : TabQ W base' n v1 A c k f) (hb : base ≤ base') : TabQ W base n v1 A c k f :=
  ⟨own_more h.own1 hb, h.rows, fun j hj a e => ⟨Nat.le_trans hb (h.low j hj a e).1, (h.low j hj a e).2⟩, h.apart1⟩
end
theorem TabQ.add {w7 W w8 : World} {base n : Nat} {v1 : Value} {A : Nat → Option Addr} {c : Nat → Nat} {k : Nat} {f : Nat → Nat → Int} {B : Option Addr} {cb g1 c1 : Nat} (h : TabQ w7 base n v1 A c k f) (hw : Below w7.heap.size w7 W) (hr : Row intL 1 W W.heap.size B ((List.range n).map (f k))) (hrb : ∀ a, B = some a → w7.heap.size ≤ a.block ∧ a.block < W.heap.size) (hbw : base ≤ w7.heap.size)
    (hg1 : W.grownBy w8 v1.ownBlock) (ho1 : w8.ownsRow base 43 1 (.slice (some ⟨g1, 0, none⟩) (k + 1) c1) (k + 1) (((List.range k).map fun j => Value.slice (A j) n (c j)) ++ [.slice B n cb])) (hat1 : v1.ownBlock = some g1 ∨ W.heap.size ≤ g1) :
    TabQ w8 base n (.slice (some ⟨g1, 0, none⟩) (k + 1) c1) (fun j => if j = k then B else A j) (fun j => if j = k then cb else c j) (k + 1) f := by
  have h' := h.newer hw
  have ol := own_lt h.own1
  have hs1 := hg1.size
  have hs0 := hw.size
  have hB2 : ∀ a, B = some a → v1.ownBlock ≠ some a.block := fun a e e' => by
    have := ol _ e'
    have := (hrb a e).1
    omega
  refine ⟨?_, ?_, ?_, ?_⟩
  · have e : ((List.range (k + 1)).map fun j => Value.slice (if j = k then B else A j) n (if j = k then cb else c j)) = ((List.range k).map fun j => Value.slice (A j) n (c j)) ++ [.slice B n cb] := by
      rw [List.range_succ, List.map_append]
      congr 1
      · apply List.map_congr_left
        intro j hj
        have := List.mem_range.1 hj
        rw [if_neg (by omega), if_neg (by omega)]
      · simp
    rw [e]
    exact ho1
  · intro j hj
    by_cases e : j = k
    · subst e
      rw [if_pos rfl]
      exact hr.grownNe hg1 (Nat.le_refl _) hg1.size (fun a e => hB2 a e)
    · rw [if_neg e]
      exact (h'.rows j (by omega)).grownNe hg1 (Nat.le_refl _) hg1.size (fun a ea => h.apart1 j (by omega) a ea)
  · intro j hj a ea
    by_cases e : j = k
    · rw [if_pos e] at ea
      have := hrb a ea
      omega
    · rw [if_neg e] at ea
      have := h.low j (by omega) a ea
      omega
  · intro j hj a ea e'
    have e' : g1 = a.block := by simpa [Value.ownBlock] using e'
    by_cases e : j = k
    · rw [if_pos e] at ea
      rcases hat1 with h1 | h1
      · exact hB2 a ea (by rw [h1, e'])
      · have := (hrb a ea).2
        omega
    · rw [if_neg e] at ea
      rcases hat1 with h1 | h1
      · exact h.apart1 j (by omega) a ea (by rw [h1, e'])
      · have := (h.low j (by omega) a ea).2
        omega

/-- A way in which another soak is true. -/
def withSoak (s : Way) (soak : Int) : Way := { s with soak := soak }
def stQ (s : Way) (soak : Int) (k : Nat) : St := stAt s.l s.melt soak s.days s.rain ⟨iAt s.levels, s.tsnow, 0⟩ k
/-- The way has begun. -/
def vBeg (H : Nat) (s : Way) (v : Value) (W : World) : Prop := ∃ lb, v = .pointer (some ⟨lb, 0, none⟩) ∧ H ≤ lb ∧ OnWay W lb s (iAt s.levels) s.tsnow 0
theorem vBeg_st {H : Nat} {s : Way} : ∀ v W W', vBeg H s v W → newer W W' → vBeg H s v W' := fun _ _ _ ⟨lb, h1, h2, h3⟩ hb => ⟨lb, h1, h2, h3.below hb h3.blk.lt⟩
/-- run, its way begun. -/
structure RqB (w : World) (s : Way) (x : St) (lv lb : Nat) (W : World) : Prop where
  below : Below w.heap.size w W
  l1 : Whole W w.heap.size 60 #[.slice none 0 0]
  var : Whole W lv 107 #[.pointer (some ⟨lb, 0, none⟩)]
  way : OnWay W lb s x.f x.snow x.left
  far1 : w.heap.size < lv
  far2 : w.heap.size < lb
  ne : lv ≠ lb
/-- run, in its loop. -/
structure RqJ (w w3 : World) (n lb : Nat) (s : Way) (x : St) (r : Loop) (v1 : Value) (A : Nat → Option Addr) (c : Nat → Nat) (k : Nat) (f : Nat → Nat → Int) (W : World) : Prop where
  loop : W.heap[w3.heap.size + 1 + 1]? = some (.loop r)
  dfr : W.heap[w3.heap.size + 1]? = some (.deferred (some []))
  box : Whole W w3.heap.size 107 #[.pointer (some ⟨lb, 0, none⟩)]
  keep : Kept (fun i => i = w.heap.size ∨ i = lb) w3 W
  l1 : Whole W w.heap.size 60 #[v1]
  way' : OnWay W lb s x.f x.snow x.left
  tab : TabQ W (w3.heap.size + 1 + 1 + 1) n v1 A c k f
  far : w.heap.size < lb ∧ lb < w3.heap.size
section
variable {w w3 : World} {n lb : Nat} {s : Way} {x : St} {r : Loop} {v1 v1' : Value} {A A' : Nat → Option Addr} {c c' : Nat → Nat} {k k' : Nat} {f f' : Nat → Nat → Int} {W W' w8 : World}
theorem RqJ.newer (h : RqJ w w3 n lb s x r v1 A c k f W) (hb : newer W W') : RqJ w w3 n lb s x r v1 A c k f W' := by
  have hs := (Array.getElem?_eq_some_iff.1 h.loop).1
  exact ⟨(hb.block _ hs).trans h.loop, (hb.block _ (by omega)).trans h.dfr, h.box.below hb h.box.lt, h.keep.newer hb, h.l1.below hb h.l1.lt, h.way'.below hb h.way'.blk.lt, h.tab.newer hb, h.far⟩
theorem RqJ.way (h : RqJ w w3 n lb s x r v1 A c k f W) (hg : W.grownBy W' (some lb)) {x' : St} (hw : OnWay W' lb s x'.f x'.snow x'.left) : RqJ w w3 n lb s x' r v1 A c k f W' := by
  have hs := (Array.getElem?_eq_some_iff.1 h.loop).1
  have hf := h.far
  exact ⟨(hg.block _ hs (by intro e; injection e; omega)).trans h.loop, (hg.block _ (by omega) (by intro e; injection e; omega)).trans h.dfr, h.box.grown hg (by intro e; injection e; omega), h.keep.grown hg (.inl (.inr rfl)), h.l1.grown hg (by intro e; injection e; omega), hw, h.tab.old hg (by omega), hf⟩
theorem RqJ.put (h : RqJ w w3 n lb s x r v1 A c k f W) (r' : Loop) : RqJ w w3 n lb s x r' v1 A c k f (W.putObj (w3.heap.size + 1 + 1) (.loop r')) := by
  have hs := (Array.getElem?_eq_some_iff.1 h.loop).1
  have hf := h.far
  have hl := h.l1.lt
  have hg := grown_putL W (w3.heap.size + 1 + 1) (.loop r')
  exact ⟨World.putObj_heap_same hs, (World.putObj_heap_other (by omega)).trans h.dfr, h.box.put (by omega) _, h.keep.grown hg (.inr (by omega)), h.l1.put (by omega) _, h.way'.put (by omega) _, h.tab.old hg (by omega), hf⟩
theorem RqJ.add (h : RqJ w w3 n lb s x r v1 A c k f W) (hg1 : W.grownBy w8 v1.ownBlock) (ht : TabQ w8 (w3.heap.size + 1 + 1 + 1) n v1' A' c' k' f') : RqJ w w3 n lb s x r v1' A' c' k' f' (w8.setCell ⟨w.heap.size, 0, none⟩ v1') := by
  have hs := (Array.getElem?_eq_some_iff.1 h.loop).1
  have hf := h.far
  have b : Below (w3.heap.size + 1 + 1 + 1) W w8 := below_grown hg1 (own_ge h.tab.own1) (by omega)
  have s1 := grown_set (p := ⟨w.heap.size, 0, none⟩) (grown_refl w8 (some w.heap.size)) (.inl rfl) v1'
  have z1 : w8.heap.size ≤ (w8.setCell ⟨w.heap.size, 0, none⟩ v1').heap.size := s1.size
  have z0 : w3.heap.size + 1 + 1 < w8.heap.size := Nat.lt_of_lt_of_le hs b.size
  have same : ∀ i, i < w3.heap.size + 1 + 1 + 1 → i ≠ w.heap.size → (w8.setCell ⟨w.heap.size, 0, none⟩ v1').heap[i]? = W.heap[i]? := fun i hi h1 =>
    (s1.block i (by omega) (by intro e; injection e; omega)).trans (b.block i hi)
  have l8 := h.way'.below b (by omega)
  have w1 : Whole w8 w.heap.size 60 #[v1] := h.l1.below b (by omega)
  refine ⟨(same _ (by omega) (by omega)).trans h.loop, (same _ (by omega) (by omega)).trans h.dfr, (same _ (by omega) (by omega)).trans h.box, ?_, w1.set 0 v1', ?_, ht.old s1 (by omega), hf⟩
  · exact ⟨b.os.trans h.keep.os, b.tape.trans h.keep.tape, b.output.trans h.keep.output, by have := h.keep.size; have := b.size; omega, fun i hi hx => (same i (by omega) (fun e => hx (.inl e))).trans (h.keep.block i hi hx)⟩
  · obtain ⟨_, _, e1⟩ := own_form h.tab.own1
    exact l8.var' (fun n e => by rw [e1] at e; cases e) (by decide) w1 _
end

attribute [local go_sem] Oper.semAt_some
set_option maxRecDepth 100000 in
set_option maxHeartbeats 2000000 in
theorem wayRun_any (s : Way) (soak : Int) (b : Nat) (f : Nat → Int) (snow left : Int) (w : World) (hw : OnWay w b s f snow left) (ok : WayOk s.l s.melt soak s.days s.rain ⟨iAt s.levels, s.tsnow, 0⟩) (h8 : s.levels.length ≤ 8) (h1 : 1 ≤ s.l.length) :
    Calls Try.prog 75 #[.pointer (some ⟨b, 0, none⟩), vi soak] w fun e w' => (∃ v, e = .returned v ∧ vT1 s.l.length s.days.length (fun j i => (stQ s soak (j + 1)).f i) v w') ∧ Below w.heap.size w w' := by
  have HW := Lib.hid hw
  have HOK := Lib.hid ok
  have hbl := hw.blk.lt
  have c0 := hw.blk.at 0 (v := .slice s.A s.l.length s.ap) rfl
  have c1 := hw.blk.at 1 (v := vi s.slo) rfl
  have c2 := hw.blk.at 2 (v := vi s.shi) rfl
  have c3 := hw.blk.at 3 (v := vi s.klo) rfl
  have c4 := hw.blk.at 4 (v := vi s.khi) rfl
  have c5 := hw.blk.at 5 (v := vi s.melt) rfl
  have c6 := hw.blk.at 6 (v := .slice s.D s.days.length s.dp) rfl
  have c7 := hw.blk.at 7 (v := vi s.tsnow) rfl
  have c8 := hw.blk.at 8 (v := vi s.soak) rfl
  have c9 := hw.blk.at 9 (v := .slice s.L s.levels.length s.lp) rfl
  have c10 := hw.blk.at 10 (v := .slice s.R s.rain.length s.rp) rfl
  have d0 := fun o => cell_alloc c0 o
  clear hw ok
  refine callsIn_wide.1 (callsIn_of_wp_marks (n := 9) Try.func75 rfl trivial ?_ rfl)
  simp only [Try.ntmps75, List.size_toArray, List.length_cons, List.length_nil, Nat.reduceAdd, Nat.reduceSub, Array.replicate_succ, Array.replicate_zero, List.push_toArray, List.append_toArray, List.nil_append, List.cons_append]
  have e7 := fun o => cell_alloc c7 o
  have e8 := fun o => cell_alloc c8 o
  have e9 := fun o => cell_alloc c9 o
  have e10 := fun o => cell_alloc c10 o
  gi_wp2_with fail
  have HB0 : Hid (Below w.heap.size w ((w.alloc (.cells #[.slice none 0 0] 60)).alloc (.cells #[vi s.tsnow, vi soak, .slice s.L s.levels.length s.lp, .slice s.R s.rain.length s.rp] 63)) ∧ Whole ((w.alloc (.cells #[.slice none 0 0] 60)).alloc (.cells #[vi s.tsnow, vi soak, .slice s.L s.levels.length s.lp, .slice s.R s.rain.length s.rp] 63)) w.heap.size 60 #[.slice none 0 0] ∧ Whole ((w.alloc (.cells #[.slice none 0 0] 60)).alloc (.cells #[vi s.tsnow, vi soak, .slice s.L s.levels.length s.lp, .slice s.R s.rain.length s.rp] 63)) (w.heap.size + 1) 63 #[vi s.tsnow, vi soak, .slice s.L s.levels.length s.lp, .slice s.R s.rain.length s.rp]) := by
    refine Lib.hid ⟨((Below.refl _ _).alloc (Nat.le_refl _) _).alloc (by simp) _, (Whole.made _ _ _).alloc _, ?_⟩
    have h := Whole.made (w.alloc (.cells #[.slice none 0 0] 60)) 63 #[vi s.tsnow, vi soak, .slice s.L s.levels.length s.lp, .slice s.R s.rain.length s.rp]
    simpa using h
  obtain ⟨wv, hwv⟩ : ∃ wv, wv = (w.alloc (.cells #[.slice none 0 0] 60)).alloc (.cells #[vi s.tsnow, vi soak, .slice s.L s.levels.length s.lp, .slice s.R s.rain.length s.rp] 63) := ⟨_, rfl⟩
  rw [← hwv] at HB0 ⊢
  clear hwv c0 c1 c2 c3 c4 c5 c6 c7 c8 c9 c10 d0 e7 e8 e9 e10
  have HW1 := Lib.hid (HW.out.below HB0.out.1 hbl)
  have c0 := HW1.out.blk.at 0 (v := .slice s.A s.l.length s.ap) rfl
  have c1 := HW1.out.blk.at 1 (v := vi s.slo) rfl
  have c2 := HW1.out.blk.at 2 (v := vi s.shi) rfl
  have c3 := HW1.out.blk.at 3 (v := vi s.klo) rfl
  have c4 := HW1.out.blk.at 4 (v := vi s.khi) rfl
  have c5 := HW1.out.blk.at 5 (v := vi s.melt) rfl
  have c6 := HW1.out.blk.at 6 (v := .slice s.D s.days.length s.dp) rfl
  have t0 := HB0.out.2.2.at 0 (v := vi s.tsnow) rfl
  have t1 := HB0.out.2.2.at 1 (v := vi soak) rfl
  have t2 := HB0.out.2.2.at 2 (v := .slice s.L s.levels.length s.lp) rfl
  have t3 := HB0.out.2.2.at 3 (v := .slice s.R s.rain.length s.rp) rfl
  refine outer_words (by kernel_rfl) (fun _ _ h => h) (region_told 11 (by kernel_rfl) (by kernel_rfl) (fun W => Below wv.heap.size wv W) newer (pickD [vIs (.pointer (some ⟨b, 0, none⟩)), vIs (.pointer (some ⟨b, 0, none⟩)), vIs (.pointer (some ⟨b, 0, none⟩)), vIs (.agg #[.slice s.A s.l.length s.ap, vi s.slo, vi s.shi, vi s.klo, vi s.khi, vi s.melt]), vIs (.pointer (some ⟨b, 0, none⟩)), vIs (.pointer (some ⟨b, 0, none⟩)), vIs (.pointer (some ⟨b, 6, none⟩)), vIs (.slice s.D s.days.length s.dp), vIs (.agg #[vi s.tsnow, vi soak, .slice s.L s.levels.length s.lp, .slice s.R s.rain.length s.rp]), vBeg wv.heap.size (withSoak s soak), vNew wv.heap.size 107 #[.pointer none]]) (fun h k => newer_trans h k) (pickD_stable _ ⟨vIs_st, vIs_st, vIs_st, vIs_st, vIs_st, vIs_st, vIs_st, vIs_st, vIs_st, vBeg_st, vNew_st, trivial⟩) (Below.refl _ wv).drew (Below.refl _ _) ?_ ?_)
  · refine ⟨?_, ?_, ?_, ?_, ?_, ?_, ?_, ?_, ?_, ?_, ?_, trivial⟩
    · intro a W hG hR hO hp
      have h0 := hO.slot 0 (by kernel_rfl)
      refine wp_yields (v := .pointer (some ⟨b, 0, none⟩)) ?_ ⟨_, rfl, rfl, Below.refl _ _, hG⟩
      simp [slotOf] at h0
      simp [execOp, go_sem, h0]
    · intro a W hG hR hO hp
      have h13 : slotOf a 13 = .pointer (some ⟨b, 0, none⟩) := hp.1
      refine wp_yields (v := .pointer (some ⟨b, 0, none⟩)) ?_ ⟨_, rfl, rfl, Below.refl _ _, hG⟩
      simp [slotOf] at h13
      simp [execOp, go_sem, h13]
    · intro a W hG hR hO hp
      have h14 : slotOf a 14 = .pointer (some ⟨b, 0, none⟩) := hp.1
      refine wp_yields (v := .pointer (some ⟨b, 0, none⟩)) ?_ ⟨_, rfl, rfl, Below.refl _ _, hG⟩
      simp [slotOf] at h14
      simp [execOp, go_sem, h14]
    · intro a W hG hR hO hp
      have h15 : slotOf a 15 = .pointer (some ⟨b, 0, none⟩) := hp.1
      have c0 := keep_cell c0 hG
      have c1 := keep_cell c1 hG
      have c2 := keep_cell c2 hG
      have c3 := keep_cell c3 hG
      have c4 := keep_cell c4 hG
      have c5 := keep_cell c5 hG
      refine wp_yields (v := .agg #[.slice s.A s.l.length s.ap, vi s.slo, vi s.shi, vi s.klo, vi s.khi, vi s.melt]) ?_ ⟨_, rfl, rfl, Below.refl _ _, hG⟩
      simp [slotOf] at h15
      simp [execOp, go_sem, h15, c0, c1, c2, c3, c4, c5]
    · intro a W hG hR hO hp
      have h0 := hO.slot 0 (by kernel_rfl)
      refine wp_yields (v := .pointer (some ⟨b, 0, none⟩)) ?_ ⟨_, rfl, rfl, Below.refl _ _, hG⟩
      simp [slotOf] at h0
      simp [execOp, go_sem, h0]
    · intro a W hG hR hO hp
      have h17 : slotOf a 17 = .pointer (some ⟨b, 0, none⟩) := hp.1
      refine wp_yields (v := .pointer (some ⟨b, 0, none⟩)) ?_ ⟨_, rfl, rfl, Below.refl _ _, hG⟩
      simp [slotOf] at h17
      simp [execOp, go_sem, h17]
    · intro a W hG hR hO hp
      have h18 : slotOf a 18 = .pointer (some ⟨b, 0, none⟩) := hp.1
      refine wp_yields (v := .pointer (some ⟨b, 6, none⟩)) ?_ ⟨_, rfl, rfl, Below.refl _ _, hG⟩
      simp [slotOf] at h18
      simp [execOp, go_sem, h18]
    · intro a W hG hR hO hp
      have h19 : slotOf a 19 = .pointer (some ⟨b, 6, none⟩) := hp.1
      have c0 := keep_cell c6 hG
      refine wp_yields (v := .slice s.D s.days.length s.dp) ?_ ⟨_, rfl, rfl, Below.refl _ _, hG⟩
      simp [slotOf] at h19
      simp [execOp, go_sem, h19, c0]
    · intro a W hG hR hO hp
      have h5 := hO.slot 5 (by kernel_rfl)
      have c0 := keep_cell t0 hG
      have c1 := keep_cell t1 hG
      have c2 := keep_cell t2 hG
      have c3 := keep_cell t3 hG
      refine wp_yields (v := .agg #[vi s.tsnow, vi soak, .slice s.L s.levels.length s.lp, .slice s.R s.rain.length s.rp]) ?_ ⟨_, rfl, rfl, Below.refl _ _, hG⟩
      simp [slotOf] at h5
      simp [execOp, go_sem, h5, c0, c1, c2, c3]
    · intro a W hG hR hO hp
      have h16 : slotOf a 16 = .agg #[.slice s.A s.l.length s.ap, vi s.slo, vi s.shi, vi s.klo, vi s.khi, vi s.melt] := hp.1
      have h20 : slotOf a 20 = .slice s.D s.days.length s.dp := hp.2.1
      have h21 : slotOf a 21 = .agg #[vi s.tsnow, vi soak, .slice s.L s.levels.length s.lp, .slice s.R s.rain.length s.rp] := hp.2.2.1
      have hwb := HW1.out.below hG HW1.out.blk.lt
      have hle : b ≤ W.heap.size := by have := HW1.out.blk.lt; have := hG.size; omega
      refine wp_enters (f := 52) (args := #[.agg #[.slice s.A s.l.length s.ap, vi s.slo, vi s.shi, vi s.klo, vi s.khi, vi s.melt], .slice s.D s.days.length s.dp, .agg #[vi s.tsnow, vi soak, .slice s.L s.levels.length s.lp, .slice s.R s.rain.length s.rp]]) ?_ ((begin_any (withSoak s soak) W h8 (hwb.cells.more hle) (hwb.days.more hle) (hwb.levels.more hle) (hwb.rain.more hle)).mono ?_)
      · simp [slotOf] at h16 h20 h21
        simp [go_sem, h16, h20, h21]
      · rintro e w' ⟨lb, rfl, hlb, hway, hb⟩
        exact ⟨_, rfl, _, rfl, ⟨lb, rfl, Nat.le_trans hG.size hlb, hway⟩, hb, below_next hG hb⟩
    · intro a W hG hR hO hp
      refine wp_makes (v := .pointer (some ⟨W.heap.size, 0, none⟩)) (W' := W.alloc (.cells #[.pointer none] 107)) ?_ ⟨_, rfl, ⟨_, rfl, hG.size, Whole.made _ _ _⟩, (Below.refl _ _).alloc (Nat.le_refl _) _, hG.alloc hG.size _⟩
      skip
      simp [execOp, go_sem]
  · intro W hG hR
    rintro _ rfl _ rfl _ rfl _ rfl _ rfl _ rfl _ rfl _ rfl _ rfl _ ⟨lb, rfl, hlb, hway⟩ _ ⟨nb, rfl, hnb, hnw⟩
    change wpList _ _ _ _ _ _
    simp only [Act.put, List.setIfInBounds_toArray, List.set_cons_zero, List.set_cons_succ, List.drop_succ_cons, List.drop_zero]
    have hlb' : w.heap.size < lb := by have := HB0.out.2.2.lt; omega
    have hlv' : w.heap.size < nb := by have := HB0.out.2.2.lt; omega
    have HB1 := Lib.hid (And.intro (below_step HB0.out.1 hG (by have := HB0.out.2.1.lt; omega)) (And.intro (HB0.out.2.1.below hG HB0.out.2.1.lt) (And.intro hway hnw)))
    have x0 := hnw.at 0 rfl
    have f0 := hnw.free 0
    clear hG hR hway hnw c0 c1 c2 c3 c4 c5 c6 t0 t1 t2 t3
    go_wp2_with fail
    refine onlyN_intro ?_
    have HB : Hid (RqB w (withSoak s soak) ⟨iAt s.levels, s.tsnow, 0⟩ nb lb (W.setCell ⟨nb, 0, none⟩ (.pointer (some ⟨lb, 0, none⟩)))) := by
      obtain ⟨ha, hl1, hway, hnw⟩ := HB1.out
      have hne : nb ≠ lb := hway.blk.ne hnw (by decide) |>.symm
      exact Lib.hid ⟨ha.setCell (p := ⟨nb, 0, none⟩) (by dsimp only; omega) _, hl1.far (by dsimp only; omega) _, hnw.set 0 _, hway.var hnw _, hlv', hlb', hne⟩
    obtain ⟨w3', hw3'⟩ : ∃ w3', w3' = W.setCell ⟨nb, 0, none⟩ (.pointer (some ⟨lb, 0, none⟩)) := ⟨_, rfl⟩
    rw [← hw3'] at HB ⊢
    clear hw3' HB1 x0 f0 hlb hnb HB0 HW1
    have x0 := HB.out.var.at 0 rfl
    gi_wp2_with fail
    clear x0
    refine ⟨trivial, (callsIn_wide.2 (after_any _ _)).mono ?_⟩
    rintro e w' ⟨rfl, rfl⟩
    obtain ⟨w3, hw3⟩ : ∃ w3, w3 = w3' := ⟨_, rfl⟩
    rw [← hw3] at HB ⊢
    clear hw3
    gi_wp2_with fail
    refine range_law (gf := 86) (lb := #[.pointer (some ⟨w3.heap.size, 0, none⟩)]) rfl (enters_of Try.func86 (by kernel_rfl) rfl) ?_
    intro r r1 r2 r3 r4 r5 r6
    simp only [World.size_alloc]
    have hcc := HB.out
    have hf1 := hcc.far1
    have hf2 := hcc.far2
    have hlo := hcc.way.blk.lt
    have hvl := hcc.var.lt
    have hok : WayOk (withSoak s soak).l (withSoak s soak).melt (withSoak s soak).soak (withSoak s soak).days (withSoak s soak).rain ⟨iAt s.levels, s.tsnow, 0⟩ := HOK.out
    have hmany := hok.many
    have hl8 := HOK.out.few
    have hm30 := HOK.out.many
    refine (callsIn_wide.1 (after1_in 8 (w3.heap.size + 1 + 1) w3.heap.size lb (withSoak s soak) ⟨iAt s.levels, s.tsnow, 0⟩ hok
      (fun k W => ∃ v1 Af c, RqJ w w3 s.l.length lb (withSoak s soak) (stQ s soak k) r v1 Af c k (fun j i => (stQ s soak (j + 1)).f i) W)
      (fun _ => False) ?hJ ?hY _ ?h0)).mono ?_
    case hJ =>
      rintro k W ⟨v1, Af, c, hj⟩
      exact ⟨hj.box.at 0 rfl, by omega, hj.way'⟩
    case h0 =>
      refine ⟨_, fun _ => none, fun _ => 0, ?_, ?_, ?_, ?_, ((hcc.l1.alloc _).alloc _).alloc _, ((hcc.way.alloc _).alloc _).alloc _, TabQ.empty_ _ _ _ _ _ _, by omega⟩
      · (simp only [heap_if, World.size_alloc]; (repeat rw [if_neg (by omega)]); rfl)
      · (simp only [heap_if, World.size_alloc]; (repeat rw [if_neg (by omega)]); rfl)
      · (simp only [Whole, heap_if, World.size_alloc]; (repeat rw [if_neg (by omega)]); rfl)
      · exact (Kept.refl _ w3).newer ((((Below.refl _ _).alloc (Nat.le_refl _) _).alloc (by simp) _).alloc (by simp; omega) _)
    case hY =>
      rintro k W W' hk ⟨v1, Af, c, hj⟩ hg hw'
      have hj1 := hj.way (x' := stQ s soak (k + 1)) hg hw'
      refine yield_round (r := r) hj1.loop r1 r2 (by rw [r4]; rfl) ?_
      rw [r3, r4, r5, r6]
      simp only [List.zip_toArray, List.zip_cons_cons, List.zip_nil_right, List.foldl_toArray, List.foldl_cons, List.foldl_nil, List.setIfInBounds_toArray, List.set_cons_zero, List.set_cons_succ]
      gi_wp2_with fail
      refine ⟨hj1.loop, ?_⟩
      have hj5 := hj1.put (busyOf r)
      obtain ⟨w7, hw7⟩ : ∃ w7, w7 = W'.putObj (w3.heap.size + 1 + 1) (.loop (busyOf r)) := ⟨_, rfl⟩
      rw [← hw7] at hj5 ⊢
      clear hw7 hj1 hj hg hw' W W'
      obtain ⟨A1, cp1, rfl⟩ := own_form hj5.tab.own1
      have hnv := own_ge hj5.tab.own1
      have hnl := own_lt hj5.tab.own1
      have e1 := hj5.l1.at 0 rfl
      have e3 := (hj5.keep.whole hcc.var (by have := hcc.ne; omega)).at 0 rfl
      have hbase := (Array.getElem?_eq_some_iff.1 hj5.loop).1
      have hbase : w3.heap.size + 1 + 1 + 1 ≤ w7.heap.size := by omega
      have HJ7 := Lib.hid hj5
      obtain ⟨i43, hi0, hz0, hz1, hz2⟩ := info_parts Try.info43
      have HI43 := Lib.hid (And.intro hi0 (And.intro hz0 (And.intro hz1 hz2)))
      have hkd : k < s.days.length := hk
      have HCC := Lib.hid hcc
      clear hi0 hz0 hz1 hz2 hj5 hcc hok r1 r2 r3 r4 r5 r6 HB
      gi_wp2_with fail
      refine round_words (by kernel_rfl) (by kernel_rfl) (fun _ _ h => h) (region_told 4 (by kernel_rfl) (by kernel_rfl) (fun W => Below w7.heap.size w7 W) newer (pickD [vIs (.slice A1 k cp1), vIs (.pointer (some ⟨lb, 0, none⟩)), vRowR w7.heap.size s.l.length (stQ s soak (k + 1)).f, vRow1 w7.heap.size s.l.length (stQ s soak (k + 1)).f]) (fun h k => newer_trans h k) (pickD_stable _ ⟨vIs_st, vIs_st, (fun v W W' h hb => vRowR_grown (row := none) (fun _ e => by cases e) v W W' h (grown_of_newer hb none)), (fun v W W' h hb => vRow1_grown (row := none) (fun _ e => by cases e) v W W' h (grown_of_newer hb none)), trivial⟩) (Below.refl _ w7).drew (Below.refl _ _) ?_ ?_)
      · refine ⟨?_, ?_, ?_, ?_, trivial⟩
        · intro a W hG hR hO hp
          have h4 := hO.slot 4 (by kernel_rfl)
          have c0 := keep_cell e1 hG
          refine wp_yields (v := .slice A1 k cp1) ?_ ⟨_, rfl, rfl, Below.refl _ _, hG⟩
          simp [slotOf] at h4
          simp [execOp, go_sem, h4, c0]
        · intro a W hG hR hO hp
          have h6 := hO.slot 6 (by kernel_rfl)
          have c0 := keep_cell e3 hG
          refine wp_yields (v := .pointer (some ⟨lb, 0, none⟩)) ?_ ⟨_, rfl, rfl, Below.refl _ _, hG⟩
          simp [slotOf] at h6
          simp [execOp, go_sem, h6, c0]
        · intro a W hG hR hO hp
          have h28 : slotOf a 28 = .pointer (some ⟨lb, 0, none⟩) := hp.1
          refine wp_enters (f := 68) (args := #[.pointer (some ⟨lb, 0, none⟩)]) ?_ ((now_any _ _ _ _ _ W ((HJ7.out.newer hG).way') hl8).mono ?_)
          · simp [slotOf] at h28
            simp [go_sem, h28]
          · rintro e w' ⟨Ax, cx, rfl, hr2, hb, hge⟩
            have hr3 : Row intL 1 w' w'.heap.size Ax ((List.range s.l.length).map (stQ s soak (k + 1)).f) := hr2
            exact ⟨_, rfl, _, rfl, ⟨Ax, cx, by simp [withSoak], hr3, fun a e => ⟨Nat.le_trans hG.size (hge a e), row_some hr3 (range_ne h1) a e⟩⟩, hb, below_next hG hb⟩
        · intro a W hG hR hO hp
          have h29 := hp.1
          obtain ⟨Ax, cx, h29, hr3, hge⟩ := h29
          refine wp_makes (v := .slice (some ⟨W.heap.size, 0, none⟩) 1 1) (W' := W.alloc (.cells #[.slice Ax s.l.length cx] 43)) ?_ ⟨_, rfl, ⟨W.heap.size, Ax, cx, rfl, hG.size, Whole.made _ _ _, row_alloc hr3 _, fun a e => ⟨(hge a e).1, by have := (hge a e).2; simp; omega⟩⟩, (Below.refl _ _).alloc (Nat.le_refl _) _, hG.alloc hG.size _⟩
          simp [slotOf] at h29
          simp [execOp, go_sem, h29]
      · intro W hG hR
        rintro _ rfl _ rfl _ _ _ hv1
        change wpList _ _ _ _ _ _
        simp only [Act.put, List.setIfInBounds_toArray, List.set_cons_zero, List.set_cons_succ, List.drop_succ_cons, List.drop_zero]
        have hj7 := HJ7.out
        have hj8 := hj7.newer hG
        obtain ⟨hi0, hz0, hz1, hz2⟩ := HI43.out
        obtain ⟨nb1, Ax, cx, rfl, hnb1, hW1, hrx, hgx⟩ := hv1
        refine wpList_append_lies _ rfl (.tmp 27) (.tmp 30) 60 rfl (w3.heap.size + 1 + 1 + 1) 43 i43 (.slice none 0 0) 1 24 Try.underlying60 hi0 hz0 hz1 hz2 rfl (by omega) _ k _ rfl hj8.tab.own1 ⟨nb1, 0, none⟩ 1 1 [.slice Ax s.l.length cx] rfl rfl (World.news_of_block hW1) (by simp [Value.oneCell']) (by omega) (by unfold maxLen; omega) (by omega) (by have := hG.size; omega) W.heap.size rfl ?_
        intro g2 cp2 w8 hown2 hgrow2 hat2 hlt2
        have ht8 := hj7.tab.add hG hrx hgx hbase hgrow2 hown2 (hat2.imp id (fun e => by omega))
        have hj9 := hj8.add hgrow2 ht8
        have hb8 : Below (w3.heap.size + 1 + 1 + 1) W w8 := below_grown hgrow2 (own_ge hj8.tab.own1) (by have := hG.size; omega)
        have y1 := (hj8.l1.below hb8 (by omega)).at 0 rfl
        have y2 := (hj8.l1.below hb8 (by omega)).free 0
        have HX := Lib.hid (And.intro hj9.loop (hj9.put r))
        clear hj9 ht8 hb8 hown2 hgrow2 hat2 hlt2 hi0 hz0 hz1 hz2 hj7 hj8 hrx hgx hG hR hW1 hnb1 e1 e3 hnv hnl HJ7 HCC
        go_wp2_with fail
        refine onlyN_intro ?_
        gi_wp2_with fail
        exact ⟨HX.out.1, rfl, _, _, _, HX.out.2⟩
    · rintro e W ⟨⟨v, rfl⟩, ⟨v1, Af, c, hj⟩ | hfalse⟩
      · refine ⟨⟨_, rfl⟩, .inl ⟨hj.loop, ?_⟩⟩
        have hdl : (withSoak s soak).days.length = s.days.length := rfl
        rw [hdl] at hj
        clear hdl
        have hj1 := hj.put (overOf r)
        obtain ⟨A1, cp1, rfl⟩ := own_form hj1.tab.own1
        obtain ⟨w7, hw7⟩ : ∃ w7, w7 = W.putObj (w3.heap.size + 1 + 1) (.loop (overOf r)) := ⟨_, rfl⟩
        rw [← hw7] at hj1 ⊢
        have e1 := hj1.l1.at 0 (v := .slice A1 s.days.length cp1) rfl
        have f1 := hj1.l1.free 0
        have HJ7 := Lib.hid hj1
        have HCC := Lib.hid hcc
        clear hj1 hj r1 r2 r3 r4 r5 r6 hcc hw7 HB hok
        gi_wp2_with fail
        rw [setCell_same e1]
        have hj8 := HJ7.out
        have hs8 := (Array.getElem?_eq_some_iff.1 hj8.loop).1
        have d1 := hj8.dfr
        have p1 := grown_putL w7 (w3.heap.size + 1) (.deferred none)
        have b1 : Whole (w7.putObj (w3.heap.size + 1) (.deferred none)) w.heap.size 60 #[.slice A1 s.days.length cp1] := hj8.l1.put (by omega) _
        have x1 := b1.at 0 rfl
        have HX : Hid ((∃ v, Ending.returned (.slice A1 s.days.length cp1) = .returned v ∧ vT1 s.l.length s.days.length (fun j i => (stQ s soak (j + 1)).f i) v (w7.putObj (w3.heap.size + 1) (.deferred none))) ∧ Below w.heap.size w (w7.putObj (w3.heap.size + 1) (.deferred none))) := by
          have t9 := hj8.tab.old p1 (by omega)
          have hk := HCC.out.below.size
          have a1 : Below w.heap.size w w7 := HCC.out.below.trans (hj8.keep.below hk (fun i hi => by omega))
          exact Lib.hid ⟨⟨_, rfl, A1, cp1, Af, c, _, rfl, t9.own1, t9.rows⟩, a1.trans (below_of_grown p1 (by omega) (by omega))⟩
        clear p1 hj8 hs8 HJ7 HCC b1 e1 f1
        refine ⟨by simp, .inl ⟨_, _, rfl, run_takeDeferred d1, ?_⟩⟩
        refine ⟨_, ?_, HX.out⟩
        simp [results, Try.results75, go_sem, x1]
      · exact hfalse.elim
end Go.Proofs.Yteonkhohloabfaa
