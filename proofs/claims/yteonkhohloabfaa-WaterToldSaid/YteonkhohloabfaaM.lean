/- The first day on which a cell reaches a level. -/
import Derived.Test.YteonkhohloabfaaK
import Derived.RangeFuncBound
import Derived.Shelf.Abstract
import Derived.Shelf.RegionOpen
import Derived.OwnWalkIn
import Derived.TacticsInMore
namespace Go.Proofs.Yteonkhohloabfaa
open Go.RowKit Go.Shelf

section
variable {P : Program} {b : Frame} {a : Act} {k : List Item} {cs : List Frame} {w : World} {Q : Exit → Act → World → Prop} {F : Fence} {n : Nat}
theorem stepR_scope {c : Code} : step P (lone (b.atR a (.code (.scope c) :: k)) cs w) = .next (lone (b.atR a (.code c :: .inScope c :: k)) cs w) :=
  step_lone_go (by simp [stepG, stepG.exec, Frame.atR])
theorem stepR_inScope {c : Code} : step P (lone (b.atR a (.inScope c :: k)) cs w) = .next (lone (b.atR a k) cs w) :=
  step_lone_go (by simp [stepG, stepG.exec, Frame.atR])
theorem wpIn_scope_straight {c : Code} (h : c.wpIn F n P (Exit.noGoto Q) a w) : (Code.scope c).wpIn F n P Q a w := by
  intro b k cs hro hb hr
  have h0 : (lone (b.atR a (.code (.scope c) :: k)) cs w).fenced P F := fenced_calm hb hr rfl
  obtain ⟨e, a₁, w₁, hq, harr⟩ := h b (.inScope c :: k) cs hro hb hr
  cases e with
  | normal => exact ⟨.normal, a₁, w₁, hq, .head h0 stepR_scope (StepsIn.trans harr (.one (fenced_calm hb hr rfl) stepR_inScope))⟩
  | exit id =>
    have hx : exitTo id (.inScope c :: k) = exitTo id k := by simp [exitTo]
    exact ⟨.exit id, a₁, w₁, hq, fun k' hk => .head h0 stepR_scope (harr.1 k' (by rw [hx]; exact hk)), fun hr' hk => let ⟨k₁, h1, h2⟩ := harr.2 hr' (by rw [hx]; exact hk); ⟨k₁, h1, .head h0 stepR_scope h2⟩⟩
  | goto l => exact hq.elim
  | ret => exact ⟨_, a₁, w₁, hq, .of_steps (.one h0 stepR_scope) harr⟩
  | panic ch => exact ⟨_, a₁, w₁, hq, .of_steps (.one h0 stepR_scope) harr⟩
  | outgrown => exact ⟨_, a₁, w₁, hq, .of_steps (.one h0 stepR_scope) harr⟩
end

/-- The first day of n after which a test holds; -1 where there is none. -/
def firstD (n : Nat) (p : Nat → Bool) : Int := idx p (List.range n)

attribute [local go_sem] Oper.semAt_some

structure FirstAt (w : World) (b : Nat) (cell : Nat) (level : Int) (out : Int) (r : Loop) (W : World) : Prop where
  loop : W.heap[w.heap.size + 1 + 1 + 1 + 1 + 1 + 1]? = some (.loop r)
  dfr : W.heap[w.heap.size + 1 + 1 + 1 + 1 + 1]? = some (.deferred (some []))
  b0 : Whole W w.heap.size 107 #[.pointer (some ⟨b, 0, none⟩)]
  b1 : Whole W (w.heap.size + 1) 3 #[.int .i64 cell]
  b2 : Whole W (w.heap.size + 1 + 1) 3 #[.int .i64 level]
  b3 : Whole W (w.heap.size + 1 + 1 + 1) 3 #[.int .i64 out]
  b4 : Whole W (w.heap.size + 1 + 1 + 1 + 1) 107 #[.pointer (some ⟨b, 0, none⟩)]
  grown : w.grownBy W (some b)

theorem heap_if (w : World) (o : Obj) (k : Nat) : (w.alloc o).heap[k]? = if k = w.heap.size then some o else w.heap[k]? := by
  show (w.heap.push o)[k]? = _
  rw [Array.getElem?_push]

theorem FirstAt.start (w : World) (b cell : Nat) (level : Int) (r : Loop) : FirstAt w b cell level (-1) r (((((((w.alloc (.cells #[.pointer (some ⟨b, 0, none⟩)] 107)).alloc (.cells #[.int .i64 cell] 3)).alloc (.cells #[.int .i64 level] 3)).alloc (.cells #[.int .i64 (-1)] 3)).alloc (.cells #[.pointer (some ⟨b, 0, none⟩)] 107)).alloc (.deferred (some []))).alloc (.loop r)) := by
  refine ⟨?_, ?_, ?_, ?_, ?_, ?_, ?_, ?_⟩
  · (simp only [heap_if, World.size_alloc]; (repeat rw [if_neg (by omega)]); rfl)
  · (simp only [heap_if, World.size_alloc]; (repeat rw [if_neg (by omega)]); rfl)
  · (simp only [Whole, heap_if, World.size_alloc]; (repeat rw [if_neg (by omega)]); rfl)
  · (simp only [Whole, heap_if, World.size_alloc]; (repeat rw [if_neg (by omega)]); rfl)
  · (simp only [Whole, heap_if, World.size_alloc]; (repeat rw [if_neg (by omega)]); rfl)
  · (simp only [Whole, heap_if, World.size_alloc]; (repeat rw [if_neg (by omega)]); rfl)
  · (simp only [Whole, heap_if, World.size_alloc]; (repeat rw [if_neg (by omega)]); rfl)
  · exact grown_alloc (grown_alloc (grown_alloc (grown_alloc (grown_alloc (grown_alloc (grown_alloc (grown_refl w _) _) _) _) _) _) _) _

theorem FirstAt.kept {w : World} {b cell : Nat} {level out : Int} {r : Loop} {W W' : World} (h : FirstAt w b cell level out r W) (hb : b < w.heap.size) (hg : W.grownBy W' (some b)) : FirstAt w b cell level out r W' := by
  have hs := (Array.getElem?_eq_some_iff.1 h.loop).1
  exact ⟨(hg.block _ hs (by simp; omega)).trans h.loop, (hg.block _ (by omega) (by simp; omega)).trans h.dfr, h.b0.grown hg (by simp; omega), h.b1.grown hg (by simp; omega), h.b2.grown hg (by simp; omega), h.b3.grown hg (by simp; omega), h.b4.grown hg (by simp; omega), grown_trans h.grown hg⟩
theorem grown_put {a w : World} {row : Option Nat} (h : a.grownBy w row) {l : Nat} (hl : a.heap.size ≤ l) (o : Obj) : a.grownBy (w.putObj l o) row :=
  ⟨h.os, h.tape, h.output, by simpa using h.size, fun i hi hne => (World.putObj_heap_other (by omega)).trans (h.block i hi hne)⟩
theorem Whole.put {w : World} {g : Nat} {t : TypeId} {cs : Array Value} (h : Whole w g t cs) {l : Nat} (hl : g ≠ l) (o : Obj) : Whole (w.putObj l o) g t cs := (World.putObj_heap_other hl).trans h
theorem FirstAt.put {w : World} {b cell : Nat} {level out : Int} {r : Loop} {W : World} (h : FirstAt w b cell level out r W) (r' : Loop) : FirstAt w b cell level out r' (W.putObj (w.heap.size + 1 + 1 + 1 + 1 + 1 + 1) (.loop r')) := by
  have hs := (Array.getElem?_eq_some_iff.1 h.loop).1
  exact ⟨World.putObj_heap_same hs, (World.putObj_heap_other (by omega)).trans h.dfr, h.b0.put (by omega) _, h.b1.put (by omega) _, h.b2.put (by omega) _, h.b3.put (by omega) _, h.b4.put (by omega) _, grown_put h.grown (by omega) _⟩
theorem FirstAt.kept2 {w : World} {b cell : Nat} {level out : Int} {r : Loop} {W W' : World} (h : FirstAt w b cell level out r W) (hg : Below W.heap.size W W') : FirstAt w b cell level out r W' := by
  have hs := (Array.getElem?_eq_some_iff.1 h.loop).1
  exact ⟨(hg.block _ hs).trans h.loop, (hg.block _ (by omega)).trans h.dfr, h.b0.below hg h.b0.lt, h.b1.below hg h.b1.lt, h.b2.below hg h.b2.lt, h.b3.below hg h.b3.lt, h.b4.below hg h.b4.lt, grown_below h.grown hg⟩
theorem FirstAt.drew {w : World} {b cell : Nat} {level out : Int} {r : Loop} {W : World} (h : FirstAt w b cell level out r W) : FirstAt w b cell level out r W.drew :=
  ⟨h.loop, h.dfr, h.b0, h.b1, h.b2, h.b3, h.b4, grown_drew h.grown⟩
theorem FirstAt.found {w : World} {b cell : Nat} {level out : Int} {r : Loop} {W : World} (h : FirstAt w b cell level out r W) (x : Int) : FirstAt w b cell level x r (W.setCell ⟨w.heap.size + 1 + 1 + 1, 0, none⟩ (.int .i64 x)) := by
  have hg := grown_set (p := ⟨w.heap.size + 1 + 1 + 1, 0, none⟩) (grown_refl W (some (w.heap.size + 1 + 1 + 1))) (.inl rfl) (.int .i64 x)
  have hs := (Array.getElem?_eq_some_iff.1 h.loop).1
  exact ⟨(hg.block _ hs (by intro e; injection e; omega)).trans h.loop, (hg.block _ (by omega) (by intro e; injection e; omega)).trans h.dfr, h.b0.grown hg (by intro e; injection e; omega), h.b1.grown hg (by intro e; injection e; omega), h.b2.grown hg (by intro e; injection e; omega), h.b3.set 0 _, h.b4.grown hg (by intro e; injection e; omega), grown_set (p := ⟨w.heap.size + 1 + 1 + 1, 0, none⟩) h.grown (.inr (by dsimp only; omega)) _⟩
theorem OnWay.put {W : World} {b : Nat} {s : Way} {f : Nat → Int} {snow left : Int} (h : OnWay W b s f snow left) {l : Nat} (hl : b < l) (o : Obj) : OnWay (W.putObj l o) b s f snow left :=
  h.below (B := l) ⟨rfl, rfl, rfl, by simp, fun i hi => World.putObj_heap_other (by omega)⟩ hl
theorem OnWay.kept {W W' : World} {b : Nat} {s : Way} {f : Nat → Int} {snow left : Int} (h : OnWay W b s f snow left) {g : Nat} (hg : W.grownBy W' (some g)) (hb : b < g) (hg' : g ≤ W.heap.size) : OnWay W' b s f snow left :=
  h.below (B := g) (below_of_grown hg (Nat.le_refl _) hg') hb

set_option maxRecDepth 100000 in
set_option maxHeartbeats 1000000 in
theorem first_any (s : Way) (x : St) (b cell : Nat) (level : Int) (w : World) (ok : WayOk s.l s.melt s.soak s.days s.rain x) (h : OnWay w b s x.f x.snow x.left) (hcell : cell < s.l.length) :
    Calls Try.prog 61 #[.pointer (some ⟨b, 0, none⟩), .int .i64 cell, .int .i64 level] w fun e w' =>
      e = .returned (.int .i64 (firstD s.days.length fun k => decide (level ≤ (stAt s.l s.melt s.soak s.days s.rain x (k + 1)).f cell))) ∧ w.grownBy w' (some b) := by
  have HO := Lib.hid ok
  have HW := Lib.hid h
  have hb := h.blk.lt
  have h8 := ok.few
  clear ok h
  refine callsIn_wide.1 (callsIn_of_wp_marks (n := 9) Try.func61 rfl trivial ?_ rfl)
  simp only [Try.ntmps61, List.size_toArray, List.length_cons, List.length_nil, Nat.reduceAdd, Nat.reduceSub, Array.replicate_succ, Array.replicate_zero, List.push_toArray, List.append_toArray, List.nil_append, List.cons_append]
  gi_wp2_with fail
  refine wpIn_scope_straight ?_
  gi_wp2_with fail
  refine wpIn_label ?_
  gi_wp2_with fail
  refine ⟨trivial, (callsIn_wide.2 (after_any _ _)).mono ?_⟩
  rintro e w' ⟨rfl, rfl⟩
  gi_wp2_with fail
  refine range_law (gf := 86) (lb := #[.pointer (some ⟨w.heap.size + 1 + 1 + 1 + 1, 0, none⟩)]) rfl (enters_of Try.func86 (by kernel_rfl) rfl) ?_
  intro r r1 r2 r3 r4 r5 r6
  simp only [World.size_alloc]
  have hJ : ∀ k W, (FirstAt w b cell level (-1) r W ∧ OnWay W b s (stAt s.l s.melt s.soak s.days s.rain x k).f (stAt s.l s.melt s.soak s.days s.rain x k).snow (stAt s.l s.melt s.soak s.days s.rain x k).left ∧ early (fun k => decide (level ≤ (stAt s.l s.melt s.soak s.days s.rain x (k + 1)).f cell)) (List.range s.days.length) k) →
      W.cell? ⟨w.heap.size + 1 + 1 + 1 + 1, 0, none⟩ = some (.pointer (some ⟨b, 0, none⟩)) ∧ w.heap.size + 1 + 1 + 1 + 1 ≠ b ∧ OnWay W b s (stAt s.l s.melt s.soak s.days s.rain x k).f (stAt s.l s.melt s.soak s.days s.rain x k).snow (stAt s.l s.melt s.soak s.days s.rain x k).left :=
    fun k W hj => ⟨hj.1.b4.at 0 rfl, by omega, hj.2.1⟩
  refine (callsIn_wide.1 (after1_in 8 (w.heap.size + 1 + 1 + 1 + 1 + 1 + 1) (w.heap.size + 1 + 1 + 1 + 1) b s x HO.out
    (fun k W => FirstAt w b cell level (-1) r W ∧ OnWay W b s (stAt s.l s.melt s.soak s.days s.rain x k).f (stAt s.l s.melt s.soak s.days s.rain x k).snow (stAt s.l s.melt s.soak s.days s.rain x k).left ∧ early (fun k => decide (level ≤ (stAt s.l s.melt s.soak s.days s.rain x (k + 1)).f cell)) (List.range s.days.length) k)
    (fun W => ∃ k : Nat, FirstAt w b cell level k (doneOf r (.exit 0)) W ∧ k < s.days.length ∧ early (fun k => decide (level ≤ (stAt s.l s.melt s.soak s.days s.rain x (k + 1)).f cell)) (List.range s.days.length) k ∧ level ≤ (stAt s.l s.melt s.soak s.days s.rain x (k + 1)).f cell)
    hJ ?hY _ ?h0)).mono ?_
  case h0 =>
    refine ⟨FirstAt.start w b cell level r, ?_, early_zero _ _⟩
    exact (((((((HW.out).alloc _).alloc _).alloc _).alloc _).alloc _).alloc _).alloc _
  case hY =>
    intro k W W' hk hj hg hw'
    have hf := hj.1.kept hb hg
    refine yield_round (r := r) hf.loop r1 r2 (by rw [r4]; rfl) ?_
    rw [r3, r4, r5, r6]
    simp only [List.zip_toArray, List.zip_cons_cons, List.zip_nil_right, List.foldl_toArray, List.foldl_cons, List.foldl_nil, List.setIfInBounds_toArray, List.set_cons_zero, List.set_cons_succ]
    gi_wp2_with fail
    refine ⟨hf.loop, ?_⟩
    have hw5 := hw'.put (l := w.heap.size + 1 + 1 + 1 + 1 + 1 + 1) (by omega) (.loop (busyOf r))
    have hf5 := hf.put (busyOf r)
    obtain ⟨w5, hw5e⟩ : ∃ w5, w5 = W'.putObj (w.heap.size + 1 + 1 + 1 + 1 + 1 + 1) (.loop (busyOf r)) := ⟨_, rfl⟩
    rw [← hw5e] at hw5 hf5 ⊢
    have e0 := hf5.b0.at 0 rfl
    have e1 := hf5.b1.at 0 rfl
    have e2 := hf5.b2.at 0 rfl
    have e3 := hw5.blk.at (11 + cell) (wayCs_level _ _ _ _ (show cell < 8 by omega))
    have e4 := hf5.b3.at 0 rfl
    have e5 := hf5.b3.free 0
    have hc8 : (cell : Int) < 8 := by omega
    have H5 := Lib.hid (And.intro hf5 hw5)
    have HE := Lib.hid hj.2.2
    clear hw5 hf5 hw5e hf hj hg hw' r1 r2 r3 r4 r5 r6 hJ
    gi_wp2_with fail
    refine round_words (by kernel_rfl) (by kernel_rfl) (fun _ _ h => h) (region_told 7 (by kernel_rfl) (by kernel_rfl) (fun W => Below w5.heap.size w5 W) newer (pickD [vIs (.pointer (some ⟨b, 0, none⟩)), vIs (.int .i64 cell), vIs (.pointer (some ⟨b, 0, none⟩)), vIs (.pointer (some ⟨b, 11, none⟩)), vIs (.pointer (some ⟨b, 11 + cell, none⟩)), vIs (vi ((stAt s.l s.melt s.soak s.days s.rain x (k + 1)).f cell)), vIs (.int .i64 level)]) (fun h k => newer_trans h k) (pickD_stable _ ⟨vIs_st, vIs_st, vIs_st, vIs_st, vIs_st, vIs_st, vIs_st, trivial⟩) (Below.refl _ w5).drew (Below.refl _ _) ?_ ?_)
    · refine ⟨?_, ?_, ?_, ?_, ?_, ?_, ?_, trivial⟩
      · intro a W hG hR hO hp
        have h3 := hO.slot 3 (by kernel_rfl)
        have c0 := keep_cell e0 hG
        refine wp_yields (v := .pointer (some ⟨b, 0, none⟩)) ?_ ⟨_, rfl, rfl, Below.refl _ _, hG⟩
        simp [slotOf] at h3
        simp [execOp, go_sem, h3, c0]
      · intro a W hG hR hO hp
        have h4 := hO.slot 4 (by kernel_rfl)
        have c0 := keep_cell e1 hG
        refine wp_yields (v := .int .i64 cell) ?_ ⟨_, rfl, rfl, Below.refl _ _, hG⟩
        simp [slotOf] at h4
        simp [execOp, go_sem, h4, c0]
      · intro a W hG hR hO hp
        have h13 : slotOf a 13 = .pointer (some ⟨b, 0, none⟩) := hp.1
        refine wp_yields (v := .pointer (some ⟨b, 0, none⟩)) ?_ ⟨_, rfl, rfl, Below.refl _ _, hG⟩
        simp [slotOf] at h13
        simp [execOp, go_sem, h13]
      · intro a W hG hR hO hp
        have h15 : slotOf a 15 = .pointer (some ⟨b, 0, none⟩) := hp.1
        refine wp_yields (v := .pointer (some ⟨b, 11, none⟩)) ?_ ⟨_, rfl, rfl, Below.refl _ _, hG⟩
        simp [slotOf] at h15
        simp [execOp, go_sem, h15]
      · intro a W hG hR hO hp
        have h16 : slotOf a 16 = .pointer (some ⟨b, 11, none⟩) := hp.1
        have h14 : slotOf a 14 = .int .i64 cell := hp.2.1
        refine wp_yields (v := .pointer (some ⟨b, 11 + cell, none⟩)) ?_ ⟨_, rfl, rfl, Below.refl _ _, hG⟩
        simp [slotOf] at h16 h14
        simp [execOp, go_sem, h16, h14, hc8]
      · intro a W hG hR hO hp
        have h17 : slotOf a 17 = .pointer (some ⟨b, 11 + cell, none⟩) := hp.1
        have c0 := keep_cell e3 hG
        refine wp_yields (v := vi ((stAt s.l s.melt s.soak s.days s.rain x (k + 1)).f cell)) ?_ ⟨_, rfl, rfl, Below.refl _ _, hG⟩
        simp [slotOf] at h17
        simp [execOp, go_sem, h17, c0]
      · intro a W hG hR hO hp
        have h5 := hO.slot 5 (by kernel_rfl)
        have c0 := keep_cell e2 hG
        refine wp_yields (v := .int .i64 level) ?_ ⟨_, rfl, rfl, Below.refl _ _, hG⟩
        simp [slotOf] at h5
        simp [execOp, go_sem, h5, c0]
    · intro W hG hR
      rintro _ rfl _ rfl _ rfl _ rfl _ rfl _ rfl _ rfl
      change wpList _ _ _ _ _ _
      simp only [Act.put, List.setIfInBounds_toArray, List.set_cons_zero, List.set_cons_succ, List.drop_succ_cons, List.drop_zero]
      have hf6 := (FirstAt.kept2 H5.out.1 hG)
      have hw6 := (H5.out.2).below hG (H5.out.2).blk.lt
      have e6 := hf6.b3.at 0 rfl
      have e7 := hf6.b3.free 0
      by_cases hle : level ≤ (stAt s.l s.melt s.soak s.days s.rain x (k + 1)).f cell
      · have HX : Hid ((W.setCell ⟨w.heap.size + 1 + 1 + 1, 0, none⟩ (.int .i64 k)).heap[w.heap.size + 1 + 1 + 1 + 1 + 1 + 1]? = some (.loop (busyOf r)) ∧
          (∃ q : Nat, FirstAt w b cell level q (doneOf r (.exit 0)) ((W.setCell ⟨w.heap.size + 1 + 1 + 1, 0, none⟩ (.int .i64 k)).putObj (w.heap.size + 1 + 1 + 1 + 1 + 1 + 1) (.loop (doneOf r (.exit 0)))) ∧ q < s.days.length ∧ early (fun k => decide (level ≤ (stAt s.l s.melt s.soak s.days s.rain x (k + 1)).f cell)) (List.range s.days.length) q ∧ level ≤ (stAt s.l s.melt s.soak s.days s.rain x (q + 1)).f cell)) := by
          have h7 := hf6.found k
          exact ⟨h7.loop, k, h7.put _, hk, HE.out, hle⟩
        clear hf6 hw6 hG hR H5 e0 e1 e2 e3 e4 e5
        go_wp2_with fail
        refine onlyN_intro ?_
        gi_wp2_with fail
        obtain ⟨ha, hb'⟩ := HX.out
        exact ⟨ha, .inr ⟨rfl, hb'⟩⟩
      · have HX : Hid (W.heap[w.heap.size + 1 + 1 + 1 + 1 + 1 + 1]? = some (.loop (busyOf r)) ∧ (FirstAt w b cell level (-1) r (W.putObj (w.heap.size + 1 + 1 + 1 + 1 + 1 + 1) (.loop r)) ∧ OnWay (W.putObj (w.heap.size + 1 + 1 + 1 + 1 + 1 + 1) (.loop r)) b s (stAt s.l s.melt s.soak s.days s.rain x (k + 1)).f (stAt s.l s.melt s.soak s.days s.rain x (k + 1)).snow (stAt s.l s.melt s.soak s.days s.rain x (k + 1)).left ∧ early (fun k => decide (level ≤ (stAt s.l s.melt s.soak s.days s.rain x (k + 1)).f cell)) (List.range s.days.length) (k + 1))) :=
          ⟨hf6.loop, hf6.put r, hw6.put (by omega) _, early_succ HE.out (by rw [List.getElem?_range hk]) (by simpa using hle)⟩
        clear hf6 hw6 hG hR H5 e0 e1 e2 e3 e4 e5
        go_wp2_with fail
        refine onlyN_intro ?_
        gi_wp2_with fail
        exact ⟨HX.out.1, .inl ⟨rfl, HX.out.2⟩⟩
  · rintro e W ⟨⟨v, rfl⟩, hj | ⟨k, hf, hk, he, hle⟩⟩
    · refine ⟨⟨_, rfl⟩, .inl ⟨hj.1.loop, ?_⟩⟩
      have h1 := hj.1.put (overOf r)
      have e0 := h1.b3.at 0 rfl
      have HX : Hid ((W.putObj (w.heap.size + 1 + 1 + 1 + 1 + 1 + 1) (.loop (overOf r))).heap[w.heap.size + 1 + 1 + 1 + 1 + 1]? = some (.deferred (some [])) ∧ w.grownBy ((W.putObj (w.heap.size + 1 + 1 + 1 + 1 + 1 + 1) (.loop (overOf r))).putObj (w.heap.size + 1 + 1 + 1 + 1 + 1) (.deferred none)) (some b)) := ⟨h1.dfr, grown_put h1.grown (by omega) _⟩
      have he : firstD s.days.length (fun k => decide (level ≤ (stAt s.l s.melt s.soak s.days s.rain x (k + 1)).f cell)) = -1 := idx_none _ _ (by rw [List.length_range]; exact hj.2.2)
      have HF := Lib.hid he
      clear he h1 hj hJ r1 r2 r3 r4 r5 r6
      gi_wp2_with fail
      refine ⟨by simp, .inl ⟨_, _, rfl, run_takeDeferred HX.out.1, ?_⟩⟩
      exact ⟨_, results_tmp rfl _ _ _, by rw [HF.out]; rfl, HX.out.2⟩
    · refine ⟨⟨_, rfl⟩, .inr ⟨.exit 0, hf.loop, ?_⟩⟩
      have h1 := hf.put (overOf (doneOf r (.exit 0)))
      have e0 := h1.b3.at 0 rfl
      have HX : Hid ((W.putObj (w.heap.size + 1 + 1 + 1 + 1 + 1 + 1) (.loop (overOf (doneOf r (.exit 0))))).heap[w.heap.size + 1 + 1 + 1 + 1 + 1]? = some (.deferred (some [])) ∧ w.grownBy ((W.putObj (w.heap.size + 1 + 1 + 1 + 1 + 1 + 1) (.loop (overOf (doneOf r (.exit 0))))).putObj (w.heap.size + 1 + 1 + 1 + 1 + 1) (.deferred none)) (some b)) := ⟨h1.dfr, grown_put h1.grown (by omega) _⟩
      have he' : firstD s.days.length (fun k => decide (level ≤ (stAt s.l s.melt s.soak s.days s.rain x (k + 1)).f cell)) = (k : Int) := idx_here _ _ k k (by rw [List.getElem?_range hk]) (by simpa using hle) he
      have HF := Lib.hid he'
      clear h1 hf hJ r1 r2 r3 r4 r5 r6 he he' hle
      gi_wp2_with fail
      refine ⟨by simp, .inl ⟨_, _, rfl, run_takeDeferred HX.out.1, ?_⟩⟩
      exact ⟨_, results_tmp rfl _ _ _, by rw [HF.out]; rfl, HX.out.2⟩
end Go.Proofs.Yteonkhohloabfaa
