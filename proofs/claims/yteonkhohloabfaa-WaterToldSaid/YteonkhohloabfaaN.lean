/- Levels: the lesser and the greater levels of all cells, and the snow, after each day. -/
import Derived.Test.YteonkhohloabfaaO
import Derived.Test.YteonkhohloabfaaQ
import Derived.LoopNIn
import Derived.LoopIn
namespace Go.Proofs.Yteonkhohloabfaa
open Go.RowKit Go.Shelf

/-- A ground on its way, in the truth of all lesser, or of all greater ends. -/
def mkWay (g : Gnd) (A : Option Addr) (ap : Nat) (days : List Day) (D : Option Addr) (dp : Nat) (hi : Bool) (L : Option Addr) (lp : Nat) (R : Option Addr) (rp : Nat) : Way :=
  ⟨g.cells, A, ap, g.slo, g.shi, g.klo, g.khi, g.melt, days, D, dp, endOf hi g.slo g.shi, endOf hi g.klo g.khi, g.cells.map fun c => endOf hi c.lo c.hi, L, lp, days.map fun d => endOf hi d.lo d.hi, R, rp⟩
/-- The state ahead of all days. -/
def stEnd (hi : Bool) (g : Gnd) : St := ⟨iAt (g.cells.map fun c => endOf hi c.lo c.hi), endOf hi g.slo g.shi, 0⟩
/-- The state after k days, in the truth of all lesser, or of all greater ends. -/
def stE (hi : Bool) (g : Gnd) (days : List Day) (k : Nat) : St := stAt g.cells g.melt (endOf hi g.klo g.khi) days (days.map fun d => endOf hi d.lo d.hi) (stEnd hi g) k

/-- A truth of ends, its lists made since. -/
def vTruth (B : Nat) (hi : Bool) (g : Gnd) (days : List Day) (v : Value) (W : World) : Prop :=
  ∃ L lp R rp, v = truthV (endOf hi g.slo g.shi) (endOf hi g.klo g.khi) L g.cells.length lp R days.length rp ∧ Row intL 1 W W.heap.size L (g.cells.map fun c => endOf hi c.lo c.hi) ∧ Row intL 1 W W.heap.size R (days.map fun d => endOf hi d.lo d.hi) ∧ (∀ a, L = some a → B ≤ a.block) ∧ (∀ a, R = some a → B ≤ a.block)
theorem vTruth_st {B : Nat} {hi : Bool} {g : Gnd} {days : List Day} : ∀ (v : Value) (W W' : World), vTruth B hi g days v W → newer W W' → vTruth B hi g days v W' := by
  rintro v W W' ⟨L, lp, R, rp, h1, h2, h3, h4⟩ hb
  exact ⟨L, lp, R, rp, h1, (h2.below hb).more hb.size, (h3.below hb).more hb.size, h4⟩
/-- A ground that has begun since. -/
def vWay (B : Nat) (g : Gnd) (A : Option Addr) (ap : Nat) (days : List Day) (D : Option Addr) (dp : Nat) (hi : Bool) (v : Value) (W : World) : Prop :=
  ∃ b L lp R rp, v = .pointer (some ⟨b, 0, none⟩) ∧ B ≤ b ∧ OnWay W b (mkWay g A ap days D dp hi L lp R rp) (stEnd hi g).f (stEnd hi g).snow 0 ∧ (∀ a, L = some a → B ≤ a.block) ∧ (∀ a, R = some a → B ≤ a.block)
theorem vWay_st {B : Nat} {g : Gnd} {A : Option Addr} {ap : Nat} {days : List Day} {D : Option Addr} {dp : Nat} {hi : Bool} : ∀ (v : Value) (W W' : World), vWay B g A ap days D dp hi v W → newer W W' → vWay B g A ap days D dp hi v W' := by
  rintro v W W' ⟨b, L, lp, R, rp, h1, h2, h3, h4⟩ hb
  exact ⟨b, L, lp, R, rp, h1, h2, h3.below hb h3.blk.lt, h4⟩

theorem truth_end (hi : Bool) (g : Gnd) (A : Option Addr) (ap : Nat) (days : List Day) (D : Option Addr) (dp : Nat) (w : World) (hn : g.cells.length ≤ 1000) (hm : days.length ≤ 1000) (hc : Row cellL 7 w w.heap.size A g.cells) (hd : Row dayL 3 w w.heap.size D days) :
    Calls Try.prog 54 #[choiceV hi, gndV A ap g, .slice D days.length dp] w (ended w hi g days) := by
  cases hi
  · exact truth_lo g A ap days D dp w hn hm hc hd
  · exact truth_hi g A ap days D dp w hn hm hc hd

theorem begin_end (hi : Bool) (g : Gnd) (A : Option Addr) (ap : Nat) (days : List Day) (D : Option Addr) (dp : Nat) (L : Option Addr) (lp : Nat) (R : Option Addr) (rp : Nat) (w : World) (h8 : g.cells.length ≤ 8) (hc : Row cellL 7 w w.heap.size A g.cells) (hd : Row dayL 3 w w.heap.size D days)
    (hl : Row intL 1 w w.heap.size L (g.cells.map fun c => endOf hi c.lo c.hi)) (hr : Row intL 1 w w.heap.size R (days.map fun d => endOf hi d.lo d.hi)) :
    Calls Try.prog 52 #[gndV A ap g, .slice D days.length dp, truthV (endOf hi g.slo g.shi) (endOf hi g.klo g.khi) L g.cells.length lp R days.length rp] w (begun w (mkWay g A ap days D dp hi L lp R rp)) := by
  have := begin_any (mkWay g A ap days D dp hi L lp R rp) w (by simp [mkWay]; exact h8) hc hd hl hr
  simp only [mkWay, List.length_map] at this
  exact this

/-- All but some blocks are as they were. -/
structure Kept (X : Nat → Prop) (w W : World) : Prop where
  os : W.os = w.os
  tape : W.tape = w.tape
  output : W.output = w.output
  size : w.heap.size ≤ W.heap.size
  block : ∀ i, i < w.heap.size → ¬ X i → W.heap[i]? = w.heap[i]?


theorem genIn {P : Program} {F : Fence} {n : Nat} {c : Code} {Q : Exit → Act → World → Prop} {a : Act} {w : World} (G : World → Prop) (hG : G w) (h : ∀ w', G w' → c.wpIn F n P Q a w') : c.wpIn F n P Q a w := h w hG

abbrev gndC (A : Option Addr) (ap : Nat) (g : Gnd) : Array Value := #[.slice A g.cells.length ap, vi g.slo, vi g.shi, vi g.klo, vi g.khi, vi g.melt]
/-- The boxes of Levels, ahead of the days. -/
structure LvA (w : World) (gcs : Array Value) (W : World) : Prop where
  below : Below w.heap.size w W
  gb : Whole W w.heap.size 38 gcs
  l1 : Whole W (w.heap.size + 1) 30 #[.slice none 0 0]
  l2 : Whole W (w.heap.size + 1 + 1) 31 #[.slice none 0 0]
theorem LvA.made (w : World) (gcs : Array Value) : LvA w gcs (((w.alloc (.cells gcs 38)).alloc (.cells #[.slice none 0 0] 30)).alloc (.cells #[.slice none 0 0] 31)) := by
  refine ⟨(((Below.refl _ _).alloc (Nat.le_refl _) _).alloc (by simp) _).alloc (by simp; omega) _, ?_, ?_, ?_⟩
  · (simp only [Whole, heap_if, World.size_alloc]; (repeat rw [if_neg (by omega)]); rfl)
  · (simp only [Whole, heap_if, World.size_alloc]; (repeat rw [if_neg (by omega)]); rfl)
  · (simp only [Whole, heap_if, World.size_alloc]; (repeat rw [if_neg (by omega)]); rfl)
theorem LvA.later {w : World} {gcs : Array Value} {W W' : World} (h : LvA w gcs W) (hb : newer W W') : LvA w gcs W' := ⟨below_next h.below hb, h.gb.below hb h.gb.lt, h.l1.below hb h.l1.lt, h.l2.below hb h.l2.lt⟩
theorem Row.var {α : Type} {enc : α → List Value} {s B : Nat} {W : World} {A : Option Addr} {l : List α} (h : Row enc s W B A l) (he : ∀ x, ∃ n, (enc x)[0]? = some (vi n)) {nb : Nat} {t : TypeId} {x : Value} (hu : ∀ n, x ≠ vi n) (hW : Whole W nb t #[x]) (u : Value) : Row enc s (W.setCell ⟨nb, 0, none⟩ u) B A l := by
  intro hl
  obtain ⟨b, off, e, hb, hc⟩ := h hl
  have hne : b ≠ nb := by
    rintro rfl
    obtain ⟨y, ys, rfl⟩ := List.exists_cons_of_ne_nil hl
    obtain ⟨n, hn⟩ := he y
    have h1 := hc 0 y rfl 0 _ hn
    unfold Whole at hW
    simp only [World.cell?, hW] at h1
    rcases Nat.eq_zero_or_pos off with rfl | hp
    · simp at h1
      exact hu n h1
    · have h2 : (#[x] : Array Value)[off + 0 * s + 0]? = none := Array.getElem?_eq_none (by simp; omega)
      simp only [Option.isSome_none, Bool.false_eq_true, if_false] at h1
      rw [h2] at h1
      cases h1
  exact ⟨b, off, e, hb, fun k x hk j v hv => (World.cell?_of_block (Below.heap_setCell W ⟨nb, 0, none⟩ u b hne)).trans (hc k x hk j v hv)⟩
theorem Whole.ne {W : World} {g g' : Nat} {t t' : TypeId} {cs cs' : Array Value} (h : Whole W g t cs) (h' : Whole W g' t' cs') (hne : t ≠ t') : g ≠ g' := by
  rintro rfl
  unfold Whole at h h'
  rw [h] at h'
  injection h' with h'
  injection h' with _ ht
  exact hne ht
theorem OnWay.var' {W : World} {b : Nat} {s : Way} {f : Nat → Int} {snow left : Int} (h : OnWay W b s f snow left) {nb : Nat} {t : TypeId} {x : Value} (hu : ∀ n, x ≠ vi n) (ht : 119 ≠ t) (hW : Whole W nb t #[x]) (u : Value) : OnWay (W.setCell ⟨nb, 0, none⟩ u) b s f snow left :=
  ⟨h.blk.far (h.blk.ne hW ht) _, h.cells.var (fun c => ⟨c.lo, rfl⟩) hu hW _, h.days.var (fun c => ⟨c.lo, rfl⟩) hu hW _, h.levels.var (fun c => ⟨c, rfl⟩) hu hW _, h.rain.var (fun c => ⟨c, rfl⟩) hu hW _⟩
theorem OnWay.var {W : World} {b : Nat} {s : Way} {f : Nat → Int} {snow left : Int} (h : OnWay W b s f snow left) {nb : Nat} {x : Option Addr} (hW : Whole W nb 107 #[.pointer x]) (u : Value) : OnWay (W.setCell ⟨nb, 0, none⟩ u) b s f snow left :=
  h.var' (fun n e => by cases e) (by decide) hW u

/-- One way has begun. -/
structure LvB (w : World) (gcs : Array Value) (B : Nat) (hi : Bool) (g : Gnd) (A : Option Addr) (ap : Nat) (days : List Day) (D : Option Addr) (dp : Nat) (lv lb : Nat) (L : Option Addr) (lp : Nat) (R : Option Addr) (rp : Nat) (W : World) : Prop where
  a : LvA w gcs W
  var : Whole W lv 107 #[.pointer (some ⟨lb, 0, none⟩)]
  low : OnWay W lb (mkWay g A ap days D dp hi L lp R rp) (stEnd hi g).f (stEnd hi g).snow 0
  far1 : B ≤ lv
  far2 : B ≤ lb
theorem LvB.later {w : World} {gcs : Array Value} {B : Nat} {hi : Bool} {g : Gnd} {A : Option Addr} {ap : Nat} {days : List Day} {D : Option Addr} {dp : Nat} {lv lb : Nat} {L : Option Addr} {lp : Nat} {R : Option Addr} {rp : Nat} {W W' : World} (h : LvB w gcs B hi g A ap days D dp lv lb L lp R rp W) (hb : newer W W') : LvB w gcs B hi g A ap days D dp lv lb L lp R rp W' :=
  ⟨h.a.later hb, h.var.below hb h.var.lt, h.low.below hb h.low.blk.lt, h.far1, h.far2⟩

/-- Both ways have begun. -/
structure LvC (w : World) (gcs : Array Value) (g : Gnd) (A : Option Addr) (ap : Nat) (days : List Day) (D : Option Addr) (dp : Nat) (lv lb : Nat) (L : Option Addr) (lp : Nat) (R : Option Addr) (rp : Nat) (hv hb : Nat) (L' : Option Addr) (lp' : Nat) (R' : Option Addr) (rp' : Nat) (W : World) : Prop where
  a : LvA w gcs W
  var1 : Whole W lv 107 #[.pointer (some ⟨lb, 0, none⟩)]
  var2 : Whole W hv 107 #[.pointer (some ⟨hb, 0, none⟩)]
  low : OnWay W lb (mkWay g A ap days D dp false L lp R rp) (stEnd false g).f (stEnd false g).snow 0
  high : OnWay W hb (mkWay g A ap days D dp true L' lp' R' rp') (stEnd true g).f (stEnd true g).snow 0
  order : lb < hb
  far : w.heap.size + 1 + 1 < lv ∧ w.heap.size + 1 + 1 < lb ∧ w.heap.size + 1 + 1 < hv ∧ w.heap.size + 1 + 1 < hb
  apart : lv ≠ hv ∧ lb ≠ lv ∧ lb ≠ hv ∧ hv ≠ hb ∧ lv ≠ hb
  lists : (∀ a, L' = some a → lb < a.block) ∧ (∀ a, R' = some a → lb < a.block)

theorem fault_zero {g : Gnd} {days : List Day} (h : faultN g days = 0) : gndB g = true ∧ days.length ≤ 30 ∧ days.all dayB = true := by
  unfold faultN at h
  by_cases h1 : gndB g = true
  · rw [if_pos h1] at h
    by_cases h2 : days.length > 30
    · rw [if_pos h2] at h; omega
    · rw [if_neg h2] at h
      by_cases h3 : days.all dayB = true
      · exact ⟨h1, by omega, h3⟩
      · rw [if_neg h3] at h; omega
  · rw [if_neg h1] at h; omega
theorem mapAt {α : Type} (f : α → Int) (l : List α) (k : Nat) (x : α) (h : l[k]? = some x) : iAt (l.map f) k = f x := by simp [iAt, h]
theorem wayOk_end (hi : Bool) {g : Gnd} {days : List Day} (h : faultN g days = 0) : WayOk g.cells g.melt (endOf hi g.klo g.khi) days (days.map fun d => endOf hi d.lo d.hi) (stEnd hi g) := by
  obtain ⟨h1, h2, h3⟩ := fault_zero h
  simp only [gndB, Bool.and_eq_true, inB, upB, decide_eq_true_eq] at h1
  obtain ⟨⟨⟨⟨⟨hn, hc⟩, hs⟩, hk⟩, hm⟩, _⟩ := h1
  have hcs : CsOk g.cells := fun i hi => by
    obtain ⟨c, hc'⟩ := get_of_lt hi
    rw [cAt_of hc']
    exact cellOk_of (List.all_eq_true.1 hc c (List.mem_of_getElem? hc'))
  have hds : DsOk days := fun i hi => by
    obtain ⟨c, hc'⟩ := get_of_lt hi
    rw [dAt_of hc']
    exact dayOk_of (List.all_eq_true.1 h3 c (List.mem_of_getElem? hc'))
  refine ⟨hcs, by omega, by omega, by omega, by cases hi <;> simp [endOf] <;> omega, by cases hi <;> simp [endOf] <;> omega, hds, h2, fun i hi' => ?_, by simp, ?_⟩
  · obtain ⟨d, hd⟩ := get_of_lt hi'
    rw [mapAt _ _ _ _ hd]
    have := hds i hi'
    rw [dAt_of hd] at this
    have a := this.lo0; have b := this.lohi; have c := this.hi1
    cases hi <;> simp [endOf] <;> omega
  · refine ⟨fun i hi' => ?_, ?_, ?_, by simp [stEnd], by simp [stEnd]⟩
    · obtain ⟨c, hc'⟩ := get_of_lt hi'
      have h4 := hcs i hi'
      rw [cAt_of hc'] at h4
      have a := h4.lo1; have b := h4.lohi; have c' := h4.hi2; have d := h4.cap2
      simp only [stEnd]
      rw [mapAt _ _ _ _ hc']
      cases hi <;> simp [endOf] <;> omega
    · cases hi <;> simp [stEnd, endOf] <;> omega
    · cases hi <;> simp [stEnd, endOf] <;> omega

section
variable {X : Nat → Prop} {w W W' : World}
theorem Kept.refl (X : Nat → Prop) (w : World) : Kept X w w := ⟨rfl, rfl, rfl, Nat.le_refl _, fun _ _ _ => rfl⟩
theorem Kept.newer (h : Kept X w W) (hb : newer W W') : Kept X w W' := ⟨hb.os.trans h.os, hb.tape.trans h.tape, hb.output.trans h.output, Nat.le_trans h.size hb.size, fun i hi hx => (hb.block i (Nat.lt_of_lt_of_le hi h.size)).trans (h.block i hi hx)⟩
theorem Kept.grown (h : Kept X w W) {x : Nat} (hg : W.grownBy W' (some x)) (hx : X x ∨ w.heap.size ≤ x) : Kept X w W' :=
  ⟨hg.os.trans h.os, hg.tape.trans h.tape, hg.output.trans h.output, Nat.le_trans h.size hg.size, fun i hi hn => (hg.block i (Nat.lt_of_lt_of_le hi h.size) (by
    intro e
    injection e with e
    subst e
    rcases hx with hx | hx
    · exact hn hx
    · omega)).trans (h.block i hi hn)⟩
theorem Kept.whole (h : Kept X w W) {g : Nat} {t : TypeId} {cs : Array Value} (hw : Whole w g t cs) (hx : ¬ X g) : Whole W g t cs := (h.block g hw.lt hx).trans hw
theorem Kept.below (h : Kept X w W) {B : Nat} (hB : B ≤ w.heap.size) (hx : ∀ i, i < B → ¬ X i) : Below B w W := ⟨h.os, h.tape, h.output, h.size, fun i hi => h.block i (by omega) (hx i hi)⟩
theorem Kept.row (h : Kept X w W) {α : Type} {enc : α → List Value} {s B : Nat} {A : Option Addr} {l : List α} (hr : Row enc s w B A l) (hB : B ≤ w.heap.size) (hx : ∀ a, A = some a → ¬ X a.block) : Row enc s W B A l := by
  intro hl
  obtain ⟨b, off, e, hb, hc⟩ := hr hl
  exact ⟨b, off, e, hb, fun k x hk j v hv => (World.cell?_of_block (h.block b (by omega) (hx _ e))).trans (hc k x hk j v hv)⟩
end
theorem grown_putL (W : World) (l : Nat) (o : Obj) : W.grownBy (W.putObj l o) (some l) := ⟨rfl, rfl, rfl, by simp, fun _ _ hk => World.putObj_heap_other (fun e => hk (by rw [e]))⟩

theorem Try.info36 : (Try.prog.info? 36).map (fun i => (i.zero, i.size, i.bytes)) = some (some (.agg #[.int .i64 0, .int .i64 0]), 2, 16) := by kernel_rfl
theorem make_row (W : World) (n : Nat) (hn : n ≤ 1000) : (Instr.makeSlice 31 (.int .i64 (n : Int)) (.int .i64 (n : Int))).run Try.prog W = .ok (.slice (some ⟨W.heap.size, 0, none⟩) n n) (W.alloc (.cells (rowCs n (fun _ => 0) (fun _ => 0)) 36)) := by
  obtain ⟨i0, hi0, hz0, hz1, hz2⟩ := info_parts Try.info36
  have h := run_make (P := Try.prog) W 31 36 i0 _ Try.underlying31 hi0 hz0 .i64 .i64 n n (by omega) (by omega) (by rw [hz2]; omega) (by omega)
  rw [hz1] at h
  simp only [Int.toNat_natCast, Value.cells, rowCs_made] at h
  exact h

/-- Levels, in its first loop. -/
structure LvJ (w w3 : World) (n lo : Nat) (sL : Way) (x : St) (r : Loop) (v1 v2 : Value) (gb : Nat → Nat) (k : Nat) (lw hi : Nat → Nat → Int) (sl sh : Nat → Int) (W : World) : Prop where
  loop : W.heap[w3.heap.size + 1 + 1]? = some (.loop r)
  dfr : W.heap[w3.heap.size + 1]? = some (.deferred (some []))
  box : Whole W w3.heap.size 107 #[.pointer (some ⟨lo, 0, none⟩)]
  keep : Kept (fun i => i = w.heap.size + 1 ∨ i = w.heap.size + 1 + 1 ∨ i = lo) w3 W
  l1 : Whole W (w.heap.size + 1) 30 #[v1]
  l2 : Whole W (w.heap.size + 1 + 1) 31 #[v2]
  low : OnWay W lo sL x.f x.snow x.left
  tab : Tab W (w3.heap.size + 1 + 1 + 1) n v1 v2 gb k lw hi sl sh
  far : w.heap.size + 1 + 1 < lo ∧ lo < w3.heap.size
section
variable {w w3 : World} {n lo : Nat} {sL : Way} {x : St} {r : Loop} {v1 v2 : Value} {gb : Nat → Nat} {k : Nat} {lw hi : Nat → Nat → Int} {sl sh : Nat → Int} {W W' : World}
theorem LvJ.newer (h : LvJ w w3 n lo sL x r v1 v2 gb k lw hi sl sh W) (hb : newer W W') : LvJ w w3 n lo sL x r v1 v2 gb k lw hi sl sh W' := by
  have hs := (Array.getElem?_eq_some_iff.1 h.loop).1
  exact ⟨(hb.block _ hs).trans h.loop, (hb.block _ (by omega)).trans h.dfr, h.box.below hb h.box.lt, h.keep.newer hb, h.l1.below hb h.l1.lt, h.l2.below hb h.l2.lt, h.low.below hb h.low.blk.lt, h.tab.newer hb, h.far⟩
theorem LvJ.way (h : LvJ w w3 n lo sL x r v1 v2 gb k lw hi sl sh W) (hg : W.grownBy W' (some lo)) {x' : St} (hw : OnWay W' lo sL x'.f x'.snow x'.left) : LvJ w w3 n lo sL x' r v1 v2 gb k lw hi sl sh W' := by
  have hs := (Array.getElem?_eq_some_iff.1 h.loop).1
  have hf := h.far
  exact ⟨(hg.block _ hs (by intro e; injection e; omega)).trans h.loop, (hg.block _ (by omega) (by intro e; injection e; omega)).trans h.dfr, h.box.grown hg (by intro e; injection e; omega), h.keep.grown hg (.inl (.inr (.inr rfl))), h.l1.grown hg (by intro e; injection e; omega), h.l2.grown hg (by intro e; injection e; omega), hw, h.tab.old hg (by omega), hf⟩
theorem LvJ.put (h : LvJ w w3 n lo sL x r v1 v2 gb k lw hi sl sh W) (r' : Loop) : LvJ w w3 n lo sL x r' v1 v2 gb k lw hi sl sh (W.putObj (w3.heap.size + 1 + 1) (.loop r')) := by
  have hs := (Array.getElem?_eq_some_iff.1 h.loop).1
  have hf := h.far
  have hg := grown_putL W (w3.heap.size + 1 + 1) (.loop r')
  exact ⟨World.putObj_heap_same hs, (World.putObj_heap_other (by omega)).trans h.dfr, h.box.put (by omega) _, h.keep.grown hg (.inr (by omega)), h.l1.put (by omega) _, h.l2.put (by omega) _, h.low.put (by omega) _, h.tab.old hg (by omega), hf⟩
theorem LvJ.fresh (h : LvJ w w3 n lo sL x r v1 v2 gb k lw hi sl sh W) {q : Nat} (hg : W.grownBy W' (some q)) (hq : W.heap.size ≤ q) : LvJ w w3 n lo sL x r v1 v2 gb k lw hi sl sh W' := by
  have hs := (Array.getElem?_eq_some_iff.1 h.loop).1
  have hf := h.far
  exact ⟨(hg.block _ hs (by intro e; injection e; omega)).trans h.loop, (hg.block _ (by omega) (by intro e; injection e; omega)).trans h.dfr, h.box.grown hg (by intro e; injection e; omega), h.keep.grown hg (.inr (by omega)), h.l1.grown hg (by intro e; injection e; omega), h.l2.grown hg (by intro e; injection e; omega), h.low.below (below_of_grown hg hq (Nat.le_refl _)) h.low.blk.lt, h.tab.fresh hg hq, hf⟩
end

theorem Try.info31 : (Try.prog.info? 31).map (fun i => (i.zero, i.size, i.bytes)) = some (some (.slice none 0 0), 1, 24) := by kernel_rfl
theorem Tab.add {w7 W w8 : World} {base n : Nat} {v1 v2 : Value} {gb : Nat → Nat} {k : Nat} {lo hi : Nat → Nat → Int} {sl sh : Nat → Int} {rb g1 c1 g2 c2 : Nat} (h : Tab w7 base n v1 v2 gb k lo hi sl sh) (hr : Whole w7 rb 36 (rowCs n (lo k) (hi k))) (hrb : base ≤ rb) (hrn : ∀ j, j < k → gb j ≠ rb) (hr2 : v2.ownBlock ≠ some rb)
    (hg1 : w7.grownBy W v1.ownBlock) (ho1 : W.ownsRow base 31 1 (.slice (some ⟨g1, 0, none⟩) (k + 1) c1) (k + 1) (((List.range k).map fun j => Value.slice (some ⟨gb j, 0, none⟩) n n) ++ [.slice (some ⟨rb, 0, none⟩) n n]))
    (hg2 : W.grownBy w8 v2.ownBlock) (ho2 : w8.ownsRow base 36 2 (.slice (some ⟨g2, 0, none⟩) (k + 1) c2) (k + 1) (((List.range k).flatMap fun j => [vi (sl j), vi (sh j)]) ++ [vi (sl k), vi (sh k)])) (hat : v2.ownBlock = some g2 ∨ w7.heap.size ≤ g2) :
    Tab w8 base n (.slice (some ⟨g1, 0, none⟩) (k + 1) c1) (.slice (some ⟨g2, 0, none⟩) (k + 1) c2) (fun j => if j = k then rb else gb j) (k + 1) lo hi sl sh := by
  have hrow : ∀ j, j < k + 1 → Whole w7 (if j = k then rb else gb j) 36 (rowCs n (lo j) (hi j)) := fun j hj => by
    by_cases e : j = k
    · subst e; rw [if_pos rfl]; exact hr
    · rw [if_neg e]; exact h.rows j (by omega)
  have hne2 : ∀ j, j < k + 1 → v2.ownBlock ≠ some (if j = k then rb else gb j) := fun j hj => by
    by_cases e : j = k
    · rw [if_pos e]; exact hr2
    · rw [if_neg e]; exact h.apart2 j (by omega)
  have o2W : W.ownsRow base 36 2 v2 k ((List.range k).flatMap fun j => [vi (sl j), vi (sh j)]) := by
    rcases Option.eq_none_or_eq_some v2.ownBlock with e | ⟨q, e⟩
    · exact h.own2.kept hg1 (.inl e)
    · exact h.own2.kept hg1 (.inr (fun e' => own_own_ne h.own2 h.own1 (by decide) q e (e'.symm.trans e)))
  have o1W : w8.ownsRow base 31 1 (.slice (some ⟨g1, 0, none⟩) (k + 1) c1) (k + 1) (((List.range k).map fun j => Value.slice (some ⟨gb j, 0, none⟩) n n) ++ [.slice (some ⟨rb, 0, none⟩) n n]) :=
    ho1.kept hg2 (.inr (fun e' => own_own_ne ho1 o2W (by decide) g1 rfl e'.symm))
  refine ⟨?_, ?_, ?_, ?_, ?_, ?_⟩
  · have e : ((List.range (k + 1)).map fun j => Value.slice (some ⟨if j = k then rb else gb j, 0, none⟩) n n) = ((List.range k).map fun j => Value.slice (some ⟨gb j, 0, none⟩) n n) ++ [.slice (some ⟨rb, 0, none⟩) n n] := by
      rw [List.range_succ, List.map_append]
      congr 1
      · apply List.map_congr_left
        intro j hj
        rw [if_neg (by have := List.mem_range.1 hj; omega)]
      · simp
    rw [e]
    exact o1W
  · have e : ((List.range (k + 1)).flatMap fun j => [vi (sl j), vi (sh j)]) = ((List.range k).flatMap fun j => [vi (sl j), vi (sh j)]) ++ [vi (sl k), vi (sh k)] := by
      rw [List.range_succ, List.flatMap_append]
      simp
    rw [e]
    exact ho2
  · intro j hj
    have h1 := (hrow j hj).grown hg1 (fun e => own_ne h.own1 (hrow j hj) (by decide) e.symm)
    exact h1.grown hg2 (fun e => hne2 j hj e.symm)
  · intro j hj
    by_cases e : j = k
    · rw [if_pos e]; exact hrb
    · rw [if_neg e]; exact h.low j (by omega)
  · intro i j hi' hj e
    by_cases e1 : i = k
    · by_cases e2 : j = k
      · omega
      · rw [if_pos e1, if_neg e2] at e; exact absurd e.symm (hrn j (by omega))
    · by_cases e2 : j = k
      · rw [if_neg e1, if_pos e2] at e; exact absurd e (hrn i (by omega))
      · rw [if_neg e1, if_neg e2] at e; exact h.apart1 i j (by omega) (by omega) e
  · intro j hj e
    have e : g2 = (if j = k then rb else gb j) := by simpa [Value.ownBlock] using e
    rcases hat with hat | hat
    · exact hne2 j hj (by rw [hat, e])
    · have := (hrow j hj).lt
      omega
theorem LvJ.add {w w3 : World} {n lo : Nat} {sL : Way} {x : St} {r : Loop} {v1 v2 v1' v2' : Value} {gb gb' : Nat → Nat} {k k' : Nat} {lw hi lw' hi' : Nat → Nat → Int} {sl sh sl' sh' : Nat → Int} {w7 W w8 : World} (h : LvJ w w3 n lo sL x r v1 v2 gb k lw hi sl sh w7) (hg1 : w7.grownBy W v1.ownBlock) (hg2 : W.grownBy w8 v2.ownBlock)
    (ht : Tab w8 (w3.heap.size + 1 + 1 + 1) n v1' v2' gb' k' lw' hi' sl' sh') : LvJ w w3 n lo sL x r v1' v2' gb' k' lw' hi' sl' sh' ((w8.setCell ⟨w.heap.size + 1, 0, none⟩ v1').setCell ⟨w.heap.size + 1 + 1, 0, none⟩ v2') := by
  have hs := (Array.getElem?_eq_some_iff.1 h.loop).1
  have hf := h.far
  have b1 : Below (w3.heap.size + 1 + 1 + 1) w7 W := below_grown hg1 (own_ge h.tab.own1) (by omega)
  have b2 : Below (w3.heap.size + 1 + 1 + 1) W w8 := below_grown hg2 (own_ge h.tab.own2) (by have := hg1.size; omega)
  have b := b1.trans b2
  have s1 := grown_set (p := ⟨w.heap.size + 1, 0, none⟩) (grown_refl w8 (some (w.heap.size + 1))) (.inl rfl) v1'
  have s2 := grown_set (p := ⟨w.heap.size + 1 + 1, 0, none⟩) (grown_refl (w8.setCell ⟨w.heap.size + 1, 0, none⟩ v1') (some (w.heap.size + 1 + 1))) (.inl rfl) v2'
  have z1 : w8.heap.size ≤ (w8.setCell ⟨w.heap.size + 1, 0, none⟩ v1').heap.size := s1.size
  have z0 : w3.heap.size + 1 + 1 < w8.heap.size := Nat.lt_of_lt_of_le hs b.size
  have same : ∀ i, i < w3.heap.size + 1 + 1 + 1 → i ≠ w.heap.size + 1 → i ≠ w.heap.size + 1 + 1 → ((w8.setCell ⟨w.heap.size + 1, 0, none⟩ v1').setCell ⟨w.heap.size + 1 + 1, 0, none⟩ v2').heap[i]? = w7.heap[i]? := fun i hi h1 h2 =>
    (s2.block i (by omega) (by intro e; injection e; omega)).trans ((s1.block i (by omega) (by intro e; injection e; omega)).trans (b.block i hi))
  refine ⟨(same _ (by omega) (by omega) (by omega)).trans h.loop, (same _ (by omega) (by omega) (by omega)).trans h.dfr, (same _ (by omega) (by omega) (by omega)).trans h.box, ?_, ?_, ?_, ?_, (ht.old s1 (by omega)).old s2 (by omega), hf⟩
  · exact ⟨b.os.trans h.keep.os, b.tape.trans h.keep.tape, b.output.trans h.keep.output, by have := h.keep.size; have := b.size; have := s2.size; omega, fun i hi hx => (same i (by omega) (by omega) (by omega)).trans (h.keep.block i hi hx)⟩
  · have w1 : Whole w8 (w.heap.size + 1) 30 #[v1] := h.l1.below b (by omega)
    exact (w1.set 0 v1').grown s2 (by intro e; injection e; omega)
  · have w1 : Whole w8 (w.heap.size + 1 + 1) 31 #[v2] := h.l2.below b (by omega)
    exact (w1.grown s1 (by intro e; injection e; omega)).set 0 v2'
  · have l8 := h.low.below b (by omega)
    have w1 : Whole w8 (w.heap.size + 1) 30 #[v1] := h.l1.below b (by omega)
    have w2 : Whole (w8.setCell ⟨w.heap.size + 1, 0, none⟩ v1') (w.heap.size + 1 + 1) 31 #[v2] := (h.l2.below b (by omega)).grown s1 (by intro e; injection e; omega)
    obtain ⟨_, _, e1⟩ := own_form h.tab.own1
    obtain ⟨_, _, e2⟩ := own_form h.tab.own2
    exact (l8.var' (fun n e => by rw [e1] at e; cases e) (by decide) w1 _).var' (fun n e => by rw [e2] at e; cases e) (by decide) w2 _

end Go.Proofs.Yteonkhohloabfaa
