/- Run, where the ground is valid and the truth fits. -/
import Derived.Test.YteonkhohloabfaaAS
namespace Go.Proofs.Yteonkhohloabfaa
open Go.RowKit Go.Shelf

theorem wayOk_tr {g : Gnd} {days : List Day} {snow soak : Int} {lv rn : List Int} (h : faultN g days = 0) (hfit : fitsB g days snow soak lv rn = true) : WayOk g.cells g.melt soak days rn ⟨iAt lv, snow, 0⟩ := by
  have ok := wayOk_end false h
  obtain ⟨h1, _, h3⟩ := fault_zero h
  simp only [gndB, Bool.and_eq_true, inB, upB, decide_eq_true_eq] at h1
  obtain ⟨⟨⟨⟨⟨hn, hc⟩, hs⟩, hk⟩, hm⟩, _⟩ := h1
  simp only [fitsB, Bool.and_eq_true, inB, decide_eq_true_eq] at hfit
  obtain ⟨⟨⟨⟨⟨f1, f2⟩, f3⟩, f4⟩, f5⟩, f6⟩ := hfit
  refine ⟨ok.cells, ok.few, ok.melt0, ok.melt1, by omega, by omega, ok.ds, ok.many, fun i hi => ?_, f2, ⟨fun i hi => ?_, ?_, ?_, by simp, by simp⟩⟩
  · have h4 := goodB_at f6 i hi
    simp only [rnB, inB, Bool.and_eq_true, decide_eq_true_eq] at h4
    have := ok.ds i hi
    have a := this.lo0; have b := this.lohi; have c := this.hi1
    omega
  · have h4 := goodB_at f5 i hi
    simp only [lvB, inB, Bool.and_eq_true, decide_eq_true_eq] at h4
    have := ok.cells i hi
    have a := this.lo1; have b := this.lohi; have c' := this.hi2; have d := this.cap2
    dsimp only
    omega
  · dsimp only; omega
  · dsimp only; omega
theorem fits_len {g : Gnd} {days : List Day} {snow soak : Int} {lv rn : List Int} (hfit : fitsB g days snow soak lv rn = true) : lv.length = g.cells.length ∧ rn.length = days.length := by
  simp only [fitsB, Bool.and_eq_true, decide_eq_true_eq] at hfit
  exact ⟨hfit.1.1.1.1.1, hfit.1.1.1.1.2⟩
theorem fault_some {g : Gnd} {days : List Day} (h : faultN g days = 0) : 1 ≤ g.cells.length ∧ g.cells.length ≤ 8 := by
  obtain ⟨h1, _, _⟩ := fault_zero h
  simp only [gndB, Bool.and_eq_true, inB, upB, decide_eq_true_eq] at h1
  omega

theorem begin_tr (g : Gnd) (A : Option Addr) (ap : Nat) (days : List Day) (D : Option Addr) (dp : Nat) (snow soak : Int) (lv : List Int) (L : Option Addr) (lp : Nat) (rn : List Int) (R : Option Addr) (rp : Nat) (w : World) (h8 : lv.length ≤ 8) (hc : Row cellL 7 w w.heap.size A g.cells) (hd : Row dayL 3 w w.heap.size D days)
    (hl : Row intL 1 w w.heap.size L lv) (hr : Row intL 1 w w.heap.size R rn) :
    Calls Try.prog 52 #[gndV A ap g, .slice D days.length dp, truthV snow soak L lv.length lp R rn.length rp] w (begun w (trWay g A ap days D dp snow soak lv L lp rn R rp)) :=
  begin_any (trWay g A ap days D dp snow soak lv L lp rn R rp) w h8 hc hd hl hr

/-- A row of numbers, new. -/
def vRowR (H n : Nat) (f : Nat → Int) (v : Value) (W : World) : Prop := ∃ A c, v = .slice A n c ∧ Row intL 1 W W.heap.size A ((List.range n).map f) ∧ ∀ a, A = some a → H ≤ a.block ∧ a.block < W.heap.size
theorem vRowR_grown {H n : Nat} {f : Nat → Int} {row : Option Nat} (hr : ∀ q, row = some q → q < H) : ∀ v W W', vRowR H n f v W → W.grownBy W' row → vRowR H n f v W' :=
  fun _ _ _ ⟨A, c, h1, h2, h3⟩ hg => ⟨A, c, h1, h2.grownNe hg (Nat.le_refl _) hg.size (fun a e e' => by have := hr _ e'; have := (h3 a e).1; omega), fun a e => ⟨(h3 a e).1, Nat.lt_of_lt_of_le (h3 a e).2 hg.size⟩⟩
/-- A row of numbers in a slice of one element. -/
def vRow1 (H n : Nat) (f : Nat → Int) (v : Value) (W : World) : Prop := ∃ nb A c, v = .slice (some ⟨nb, 0, none⟩) 1 1 ∧ H ≤ nb ∧ Whole W nb 43 #[.slice A n c] ∧ Row intL 1 W W.heap.size A ((List.range n).map f) ∧ ∀ a, A = some a → H ≤ a.block ∧ a.block < W.heap.size
theorem vRow1_grown {H n : Nat} {f : Nat → Int} {row : Option Nat} (hr : ∀ q, row = some q → q < H) : ∀ v W W', vRow1 H n f v W → W.grownBy W' row → vRow1 H n f v W' :=
  fun _ _ _ ⟨nb, A, c, h1, h0, h4, h2, h3⟩ hg => ⟨nb, A, c, h1, h0, h4.grown hg (by intro e; have := hr nb e.symm; omega), h2.grownNe hg (Nat.le_refl _) hg.size (fun a e e' => by have := hr _ e'; have := (h3 a e).1; omega), fun a e => ⟨(h3 a e).1, Nat.lt_of_lt_of_le (h3 a e).2 hg.size⟩⟩
/-- What append of a row leaves. -/
def vAppR (H base n k : Nat) (xs : List Value) (f : Nat → Int) (row : Option Nat) (v : Value) (W : World) : Prop :=
  ∃ gg cap A c, v = .slice (some ⟨gg, 0, none⟩) (k + 1) cap ∧ W.ownsRow base 43 1 (.slice (some ⟨gg, 0, none⟩) (k + 1) cap) (k + 1) (xs ++ [.slice A n c]) ∧ (row = some gg ∨ H ≤ gg) ∧ Row intL 1 W W.heap.size A ((List.range n).map f) ∧ (∀ a, A = some a → H ≤ a.block ∧ a.block < W.heap.size) ∧ ∀ a, A = some a → a.block ≠ gg
theorem vAppR_st {H base n k : Nat} {xs : List Value} {f : Nat → Int} {row : Option Nat} : ∀ v W W', vAppR H base n k xs f row v W → newer W W' → vAppR H base n k xs f row v W' :=
  fun _ _ _ ⟨gg, cap, A, c, h1, h2, h3, h4, h5, h6⟩ hb => ⟨gg, cap, A, c, h1, own_below h2 hb, h3, (h4.below hb).more hb.size, fun a e => ⟨(h5 a e).1, Nat.lt_of_lt_of_le (h5 a e).2 hb.size⟩, h6⟩
theorem row_some {α : Type} {enc : α → List Value} {s B : Nat} {W : World} {A : Option Addr} {l : List α} (h : Row enc s W B A l) (hl : l ≠ []) : ∀ a, A = some a → a.block < B := by
  obtain ⟨b, off, e, hb, _⟩ := h hl
  intro a ea
  rw [e] at ea
  cases ea
  exact hb
theorem range_ne {n : Nat} {f : Nat → Int} (h : 1 ≤ n) : (List.range n).map f ≠ [] := by
  intro e
  have := congrArg List.length e
  simp at this
  omega

theorem TabR.base {W : World} {base base' n : Nat} {v1 v2 : Value} {A : Nat → Option Addr} {c : Nat → Nat} {k : Nat} {f : Nat → Nat → Int} {sl : Nat → Int} (h : TabR W base' n v1 v2 A c k f sl) (hb : base ≤ base') : TabR W base n v1 v2 A c k f sl :=
  ⟨own_more h.own1 hb, own_more h.own2 hb, h.rows, fun j hj a e => ⟨Nat.le_trans hb (h.low j hj a e).1, (h.low j hj a e).2⟩, h.apart1, h.apart2⟩
/-- What Run leaves, where all is well. -/
def runs (w : World) (g : Gnd) (days : List Day) (snow soak : Int) (lv rn : List Int) (e : Ending) (w' : World) : Prop :=
  (∃ v1 v2 A c, e = .returned (.tuple #[v1, v2, vi (stR g days snow soak lv rn days.length).snow, vi 0]) ∧
        TabR w' w.heap.size g.cells.length v1 v2 A c days.length (fun j i => (stR g days snow soak lv rn (j + 1)).f i) (fun j => (stR g days snow soak lv rn (j + 1)).left)) ∧ Below w.heap.size w w'

attribute [local go_sem] Oper.semAt_some
set_option maxRecDepth 100000 in
set_option maxHeartbeats 2000000 in
theorem run_ok (g : Gnd) (A : Option Addr) (ap : Nat) (days : List Day) (D : Option Addr) (dp : Nat) (snow soak : Int) (lv : List Int) (L : Option Addr) (lp : Nat) (rn : List Int) (R : Option Addr) (rp : Nat) (w : World) (hn : g.cells.length ≤ 1000) (hm : days.length ≤ 1000) (hl : lv.length ≤ 1000) (hr : rn.length ≤ 1000)
    (hc : Row cellL 7 w w.heap.size A g.cells) (hd : Row dayL 3 w w.heap.size D days) (hL : Row intL 1 w w.heap.size L lv) (hR : Row intL 1 w w.heap.size R rn) (hf : faultN g days = 0) (hfit : fitsB g days snow soak lv rn = true) :
    Calls Try.prog 32 #[gndV A ap g, .slice D days.length dp, truthV snow soak L lv.length lp R rn.length rp] w (runs w g days snow soak lv rn) := by
  have HC := Lib.hid hc
  have HD := Lib.hid hd
  have HL := Lib.hid hL
  have HR := Lib.hid hR
  have HF := Lib.hid hf
  have HOK := Lib.hid (wayOk_tr hf hfit)
  have h8 := (fault_some hf).2
  have h1 := (fault_some hf).1
  have hlv : lv.length ≤ 8 := by rw [(fits_len hfit).1]; exact h8
  have HFit := Lib.hid hfit
  clear hc hd hf hL hR hfit
  refine callsIn_wide.1 (callsIn_of_wp_marks (n := 9) Try.func32 rfl trivial ?_ rfl)
  simp only [Try.ntmps32, List.size_toArray, List.length_cons, List.length_nil, Nat.reduceAdd, Nat.reduceSub, Array.replicate_succ, Array.replicate_zero, List.push_toArray, List.append_toArray, List.nil_append, List.cons_append]
  gi_wp2_with fail
  refine ⟨trivial, (callsIn_wide.2 (check_any g ap A days dp D _ hn hm (row_alloc (row_alloc (row_alloc (row_alloc HC.out (.cells (gndC A ap g) 38)) (.cells (truC snow soak L lv.length lp R rn.length rp) 63)) (.cells #[.slice none 0 0] 60)) (.cells #[.slice none 0 0] 43)) (row_alloc (row_alloc (row_alloc (row_alloc HD.out _) _) _) _))).mono ?_⟩
  rintro e w1 ⟨rfl, hb⟩
  rw [HF.out]
  have HA := Lib.hid ((RnA.made w (gndC A ap g) (truC snow soak L lv.length lp R rn.length rp)).later hb)
  clear hb
  have g0 := HA.out.gb.at 0 rfl
  have g1 := HA.out.gb.at 1 rfl
  have g2 := HA.out.gb.at 2 rfl
  have g3 := HA.out.gb.at 3 rfl
  have g4 := HA.out.gb.at 4 rfl
  have g5 := HA.out.gb.at 5 rfl
  have t0 := HA.out.tb.at 0 rfl
  have t1 := HA.out.tb.at 1 rfl
  have t2 := HA.out.tb.at 2 rfl
  have t3 := HA.out.tb.at 3 rfl
  gi_wp2_with fail
  refine ⟨trivial, (callsIn_wide.2 (has_any67 g A ap days D dp snow soak lv L lp rn R rp _ hn hm hl hr ((HC.out.below HA.out.below).more HA.out.below.size) ((HD.out.below HA.out.below).more HA.out.below.size) ((HL.out.below HA.out.below).more HA.out.below.size) ((HR.out.below HA.out.below).more HA.out.below.size))).mono ?_⟩
  rw [HFit.out]
  rintro e w2 ⟨rfl, hb⟩
  have HA2 := Lib.hid (HA.out.later hb)
  clear hb HA g0 g1 g2 g3 g4 g5 t0 t1 t2 t3
  have g0 := HA2.out.gb.at 0 rfl
  have g1 := HA2.out.gb.at 1 rfl
  have g2 := HA2.out.gb.at 2 rfl
  have g3 := HA2.out.gb.at 3 rfl
  have g4 := HA2.out.gb.at 4 rfl
  have g5 := HA2.out.gb.at 5 rfl
  have t0 := HA2.out.tb.at 0 rfl
  have t1 := HA2.out.tb.at 1 rfl
  have t2 := HA2.out.tb.at 2 rfl
  have t3 := HA2.out.tb.at 3 rfl
  gi_wp2_with fail
  refine ⟨trivial, (callsIn_wide.2 (begin_tr g A ap days D dp snow soak lv L lp rn R rp _ hlv ((HC.out.below HA2.out.below).more HA2.out.below.size) ((HD.out.below HA2.out.below).more HA2.out.below.size) ((HL.out.below HA2.out.below).more HA2.out.below.size) ((HR.out.below HA2.out.below).more HA2.out.below.size))).mono ?_⟩
  rintro e w3' ⟨lb, rfl, hlb, hway, hb⟩
  have hs2 := HA2.out.l2.lt
  have HA3 := Lib.hid (And.intro (HA2.out.later hb) (And.intro hway (show w.heap.size + 1 + 1 + 1 < lb by omega)))
  clear hb HA2 g0 g1 g2 g3 g4 g5 t0 t1 t2 t3 hway hlb hs2
  gi_wp2_with fail
  refine ⟨trivial, (callsIn_wide.2 (after_any _ _)).mono ?_⟩
  rintro e w' ⟨rfl, rfl⟩
  have HB : Hid (RnB w (trWay g A ap days D dp snow soak lv L lp rn R rp) ⟨iAt lv, snow, 0⟩ w3'.heap.size lb (w3'.alloc (.cells #[.pointer (some ⟨lb, 0, none⟩)] 107))) := by
    obtain ⟨ha, hway, hlb⟩ := HA3.out
    have hl2 := ha.l2.lt
    have hlt := hway.blk.lt
    exact ⟨ha.below.alloc ha.below.size _, ha.l1.alloc _, ha.l2.alloc _, Whole.made _ _ _, hway.alloc _, by omega, by omega, by omega⟩
  obtain ⟨w3, hw3⟩ : ∃ w3, w3 = w3'.alloc (.cells #[.pointer (some ⟨lb, 0, none⟩)] 107) := ⟨_, rfl⟩
  rw [← hw3] at HB ⊢
  obtain ⟨vb, hvb⟩ : ∃ vb, vb = w3'.heap.size := ⟨_, rfl⟩
  rw [← hvb] at HB ⊢
  clear hw3 hvb HA3 w3'
  gi_wp2_with fail
  obtain ⟨r0, hr0⟩ : ∃ r0 : Unit, r0 = () := ⟨_, rfl⟩
  refine range_law (gf := 86) (lb := #[.pointer (some ⟨w3.heap.size, 0, none⟩)]) rfl (enters_of Try.func86 (by kernel_rfl) rfl) ?_
  intro r r1 r2 r3 r4 r5 r6
  simp only [World.size_alloc]
  have hcc := HB.out
  have hf1 := hcc.far1
  have hf2 := hcc.far2
  have hlo := hcc.way.blk.lt
  have hvl := hcc.var.lt
  have hok := HOK.out
  have hmany := hok.many
  refine (callsIn_wide.1 (after1_in 8 (w3.heap.size + 1 + 1) w3.heap.size lb (trWay g A ap days D dp snow soak lv L lp rn R rp) ⟨iAt lv, snow, 0⟩ hok
    (fun k W => ∃ v1 v2 Af c, RnJ w w3 g.cells.length lb (trWay g A ap days D dp snow soak lv L lp rn R rp) (stR g days snow soak lv rn k) r v1 v2 Af c k (fun j i => (stR g days snow soak lv rn (j + 1)).f i) (fun j => (stR g days snow soak lv rn (j + 1)).left) W)
    (fun _ => False) ?hJ ?hY _ ?h0)).mono ?_
  case hJ =>
    rintro k W ⟨v1, v2, Af, c, hj⟩
    exact ⟨hj.box.at 0 rfl, by omega, hj.way'⟩
  case h0 =>
    refine ⟨_, _, fun _ => none, fun _ => 0, ?_, ?_, ?_, ?_, ((hcc.l1.alloc _).alloc _).alloc _, ((hcc.l2.alloc _).alloc _).alloc _, ((hcc.way.alloc _).alloc _).alloc _, TabR.empty_ _ _ _ _ _ _ _, by omega⟩
    · (simp only [heap_if, World.size_alloc]; (repeat rw [if_neg (by omega)]); rfl)
    · (simp only [heap_if, World.size_alloc]; (repeat rw [if_neg (by omega)]); rfl)
    · (simp only [Whole, heap_if, World.size_alloc]; (repeat rw [if_neg (by omega)]); rfl)
    · exact (Kept.refl _ w3).newer ((((Below.refl _ _).alloc (Nat.le_refl _) _).alloc (by simp) _).alloc (by simp; omega) _)
  case hY =>
    rintro k W W' hk ⟨v1, v2, Af, c, hj⟩ hg hw'
    have hj1 := hj.way (x' := stR g days snow soak lv rn (k + 1)) hg hw'
    refine yield_round (r := r) hj1.loop r1 r2 (by rw [r4]; rfl) ?_
    rw [r3, r4, r5, r6]
    simp only [List.zip_toArray, List.zip_cons_cons, List.zip_nil_right, List.foldl_toArray, List.foldl_cons, List.foldl_nil, List.setIfInBounds_toArray, List.set_cons_zero, List.set_cons_succ]
    gi_wp2_with fail
    refine ⟨hj1.loop, ?_⟩
    have hj5 := hj1.put (busyOf r)
    obtain ⟨w7, hw7⟩ : ∃ w7, w7 = W'.putObj (w3.heap.size + 1 + 1) (.loop (busyOf r)) := ⟨_, rfl⟩
    rw [← hw7] at hj5 ⊢
    clear hw7 hj1 hj hg hw' W W'
    obtain ⟨A1, c1, rfl⟩ := own_form hj5.tab.own1
    obtain ⟨A2, c2, rfl⟩ := own_form hj5.tab.own2
    have hnv := own_ge hj5.tab.own1
    have hnl := own_lt hj5.tab.own1
    have e1 := hj5.l1.at 0 rfl
    have e2 := hj5.l2.at 0 rfl
    have e3 := (hj5.keep.whole hcc.var (by have := hcc.ne; omega)).at 0 rfl
    have e4 := hj5.way'.blk.at 20 (v := vi (stR g days snow soak lv rn (k + 1)).left) rfl
    have hbase := (Array.getElem?_eq_some_iff.1 hj5.loop).1
    have hbase : w3.heap.size + 1 + 1 + 1 ≤ w7.heap.size := by omega
    have HJ7 := Lib.hid hj5
    obtain ⟨i43, hi0, hz0, hz1, hz2⟩ := info_parts Try.info43
    have HI43 := Lib.hid (And.intro hi0 (And.intro hz0 (And.intro hz1 hz2)))
    clear hi0 hz0 hz1 hz2
    obtain ⟨i3, hi0, hz0, hz1, hz2⟩ := info_parts Try.info3
    have HI3 := Lib.hid (And.intro hi0 (And.intro hz0 (And.intro hz1 hz2)))
    have hkd : k < days.length := hk
    have HCC := Lib.hid hcc
    clear hi0 hz0 hz1 hz2 hj5 hcc hok r1 r2 r3 r4 r5 r6 HB
    gi_wp2_with fail
    refine round_words (by kernel_rfl) (by kernel_rfl) (fun _ _ h => h) (region_tale 11 (by kernel_rfl) (by kernel_rfl) 4 (fun W => w7.grownBy W (Value.slice A1 k c1).ownBlock) (fun W => W.ownsRow (w3.heap.size + 1 + 1 + 1) 43 1 (.slice A1 k c1) k ((List.range k).map fun j => Value.slice (Af j) g.cells.length (c j))) (relAt 4 (fun W W' => W.grownBy W' (Value.slice A1 k c1).ownBlock)) (pickD [vIs (.slice A1 k c1), vIs (.pointer (some ⟨lb, 0, none⟩)), vRowR w7.heap.size g.cells.length (stR g days snow soak lv rn (k + 1)).f, vRow1 w7.heap.size g.cells.length (stR g days snow soak lv rn (k + 1)).f, vAppR w7.heap.size (w3.heap.size + 1 + 1 + 1) g.cells.length k ((List.range k).map fun j => Value.slice (Af j) g.cells.length (c j)) (stR g days snow soak lv rn (k + 1)).f (Value.slice A1 k c1).ownBlock, vIs (.slice A2 k c2), vIs (.pointer (some ⟨lb, 0, none⟩)), vIs (.pointer (some ⟨lb, 0, none⟩)), vIs (.pointer (some ⟨lb, 20, none⟩)), vIs (vi (stR g days snow soak lv rn (k + 1)).left), vOne w7.heap.size 3 #[vi (stR g days snow soak lv rn (k + 1)).left]]) (allBut_ok (fun _ _ h => grown_of_newer h _) _ ⟨vIs_st, vIs_st, vRowR_grown hnl, vRow1_grown hnl, vAppR_st, vIs_st, vIs_st, vIs_st, vIs_st, vIs_st, vOne_grown hnl, trivial⟩) (by decide) (grown_drew (grown_refl _ _)) HJ7.out.tab.own1 ?_ ?_)
    · refine ⟨?_, ?_, ?_, ?_, ?_, ?_, ?_, ?_, ?_, ?_, ?_, trivial⟩
      · intro a W hG hG1 hO hp
        have h6 := hO.slot 6 (by kernel_rfl)
        have c0 := keep_low e1 hG hnv (by dsimp only; omega)
        refine wp_yields (v := .slice A1 k c1) ?_ ⟨_, rfl, rfl, newer_refl _, hG, fun _ h => h⟩
        simp [slotOf] at h6
        simp [execOp, go_sem, h6, c0]
      · intro a W hG hG1 hO hp
        have h11 := hO.slot 11 (by kernel_rfl)
        have c0 := keep_low e3 hG hnv (by dsimp only; omega)
        refine wp_yields (v := .pointer (some ⟨lb, 0, none⟩)) ?_ ⟨_, rfl, rfl, newer_refl _, hG, fun _ h => h⟩
        simp [slotOf] at h11
        simp [execOp, go_sem, h11, c0]
      · intro a W hG hG1 hO hp
        have h32 : slotOf a 32 = .pointer (some ⟨lb, 0, none⟩) := hp.1
        have hbw := below_grown hG hnv hbase
        refine wp_enters (f := 68) (args := #[.pointer (some ⟨lb, 0, none⟩)]) ?_ ((now_any _ _ _ _ _ W (HJ7.out.way'.below hbw (by omega)) h8).mono ?_)
        · simp [slotOf] at h32
          simp [go_sem, h32]
        · rintro e w' ⟨Ax, cx, rfl, hr2, hb, hge⟩
          have hr3 : Row intL 1 w' w'.heap.size Ax ((List.range g.cells.length).map (stR g days snow soak lv rn (k + 1)).f) := hr2
          exact ⟨_, rfl, _, rfl, ⟨Ax, cx, by simp [trWay], hr3, fun a e => ⟨Nat.le_trans hG.size (hge a e), row_some hr3 (range_ne h1) a e⟩⟩, hb, grown_below hG hb, fun hne h => own_below h hb⟩
      · intro a W hG hG1 hO hp
        have h33 := hp.1
        obtain ⟨Ax, cx, h33, hr3, hge⟩ := h33
        refine wp_makes (v := .slice (some ⟨W.heap.size, 0, none⟩) 1 1) (W' := W.alloc (.cells #[.slice Ax g.cells.length cx] 43)) ?_ ⟨_, rfl, ⟨W.heap.size, Ax, cx, rfl, hG.size, Whole.made _ _ _, row_alloc hr3 _, fun a e => ⟨(hge a e).1, by have := (hge a e).2; simp; omega⟩⟩, (Below.refl _ _).alloc (Nat.le_refl _) _, grown_alloc hG _, fun _ h => h.alloc _⟩
        simp [slotOf] at h33
        simp [execOp, go_sem, h33]
      · intro a W hG hG1 hO hp
        have h31 : slotOf a 31 = .slice A1 k c1 := hp.1
        have h34 := hp.2.1
        obtain ⟨nb, Ax, cx, h34, hnb, hW, hr3, hge⟩ := h34
        have ho := hG1 rfl
        obtain ⟨hi0, hz0, hz1, hz2⟩ := HI43.out
        refine wp_append_lies W (.tmp 31) (.tmp 34) 60 rfl (w3.heap.size + 1 + 1 + 1) 43 i43 (.slice none 0 0) 1 24 Try.underlying60 hi0 hz0 hz1 hz2 rfl (by omega) (.slice A1 k c1) k _ ((eval_slot a 31).trans h31) ho ⟨nb, 0, none⟩ 1 1 [.slice Ax g.cells.length cx] ((eval_slot a 34).trans h34) rfl (World.news_of_block hW) (by simp [Value.oneCell']) (by omega) (by unfold maxLen; omega) (by omega) (by have := hG.size; omega) W.heap.size rfl ?_
        intro gg cap w1 hown1 hgrow hat hlt1
        have hne : ∀ a, Ax = some a → (Value.slice A1 k c1).ownBlock ≠ some a.block := fun a e e' => by have := hnl _ e'; have := (hge a e).1; omega
        exact ⟨_, rfl, ⟨gg, cap, Ax, cx, rfl, hown1, hat.imp id (fun e => by have := hG.size; omega), hr3.grownNe hgrow (Nat.le_refl _) hgrow.size hne, fun a e => ⟨(hge a e).1, Nat.lt_of_lt_of_le (hge a e).2 hgrow.size⟩, fun a e e' => by rcases hat with h | h; (exact hne a e (by rw [e']; exact h)); (have := (hge a e).2; omega)⟩, hgrow, grown_trans' hG hgrow, fun e => absurd rfl e⟩
      · intro a W hG hG1 hO hp
        have h7 := hO.slot 7 (by kernel_rfl)
        have c0 := keep_low e2 hG hnv (by dsimp only; omega)
        refine wp_yields (v := .slice A2 k c2) ?_ ⟨_, rfl, rfl, newer_refl _, hG, fun _ h => h⟩
        simp [slotOf] at h7
        simp [execOp, go_sem, h7, c0]
      · intro a W hG hG1 hO hp
        have h11 := hO.slot 11 (by kernel_rfl)
        have c0 := keep_low e3 hG hnv (by dsimp only; omega)
        refine wp_yields (v := .pointer (some ⟨lb, 0, none⟩)) ?_ ⟨_, rfl, rfl, newer_refl _, hG, fun _ h => h⟩
        simp [slotOf] at h11
        simp [execOp, go_sem, h11, c0]
      · intro a W hG hG1 hO hp
        have h37 : slotOf a 37 = .pointer (some ⟨lb, 0, none⟩) := hp.1
        refine wp_yields (v := .pointer (some ⟨lb, 0, none⟩)) ?_ ⟨_, rfl, rfl, newer_refl _, hG, fun _ h => h⟩
        simp [slotOf] at h37
        simp [execOp, go_sem, h37]
      · intro a W hG hG1 hO hp
        have h38 : slotOf a 38 = .pointer (some ⟨lb, 0, none⟩) := hp.1
        refine wp_yields (v := .pointer (some ⟨lb, 20, none⟩)) ?_ ⟨_, rfl, rfl, newer_refl _, hG, fun _ h => h⟩
        simp [slotOf] at h38
        simp [execOp, go_sem, h38]
      · intro a W hG hG1 hO hp
        have h39 : slotOf a 39 = .pointer (some ⟨lb, 20, none⟩) := hp.1
        have c0 := keep_low e4 hG hnv (by dsimp only; omega)
        refine wp_yields (v := vi (stR g days snow soak lv rn (k + 1)).left) ?_ ⟨_, rfl, rfl, newer_refl _, hG, fun _ h => h⟩
        simp [slotOf] at h39
        simp [execOp, go_sem, h39, c0]
      · intro a W hG hG1 hO hp
        have h40 : slotOf a 40 = vi (stR g days snow soak lv rn (k + 1)).left := hp.1
        refine wp_makes (v := .slice (some ⟨W.heap.size, 0, none⟩) 1 1) (W' := W.alloc (.cells #[vi (stR g days snow soak lv rn (k + 1)).left] 3)) ?_ ⟨_, rfl, ⟨_, rfl, hG.size, Whole.made _ _ _⟩, (Below.refl _ _).alloc (Nat.le_refl _) _, grown_alloc hG _, fun _ h => h.alloc _⟩
        simp [slotOf] at h40
        simp [execOp, go_sem, h40]
    · intro W hG
      rintro _ rfl _ rfl _ hv33 _ hv34 _ ⟨gg, cap, Ax, cx, rfl, hown1, hat1, hrx, hgx, hgg⟩ _ rfl _ rfl _ rfl _ rfl _ rfl _ ⟨nb2, rfl, hnb2, hW2⟩
      change wpList _ _ _ _ _ _
      simp only [Act.put, List.setIfInBounds_toArray, List.set_cons_zero, List.set_cons_succ, List.drop_succ_cons, List.drop_zero]
      have hj7 := HJ7.out
      obtain ⟨hi0, hz0, hz1, hz2⟩ := HI3.out
      have o2W : W.ownsRow (w3.heap.size + 1 + 1 + 1) 3 1 (.slice A2 k c2) k ((List.range k).map fun j => vi ((fun j => (stR g days snow soak lv rn (j + 1)).left) j)) := by
        rcases Option.eq_none_or_eq_some (Value.slice A2 k c2).ownBlock with e | ⟨z, e⟩
        · exact hj7.tab.own2.kept hG (.inl e)
        · exact hj7.tab.own2.kept hG (.inr (fun e' => own_own_ne hj7.tab.own2 hj7.tab.own1 (by decide) z e (e'.symm.trans e)))
      refine wpList_append_lies _ rfl (.tmp 36) (.tmp 41) 43 rfl (w3.heap.size + 1 + 1 + 1) 3 i3 (.int .i64 0) 1 8 Try.underlying43 hi0 hz0 hz1 hz2 rfl (by omega) _ k _ rfl o2W ⟨nb2, 0, none⟩ 1 1 [vi (stR g days snow soak lv rn (k + 1)).left] rfl rfl (World.news_of_block hW2) (by simp [Value.oneCell']) (by omega) (by unfold maxLen; omega) (by omega) (by have := hG.size; omega) W.heap.size rfl ?_
      intro g2 cp2 w8 hown2 hgrow2 hat2 hlt2
      have ht8 := hj7.tab.add hrx hgx hbase hG hown1 hat1 hgg hgrow2 hown2 (hat2.imp id (fun e => by omega))
      have hj9 := (hj7.add hG hgrow2 ht8).put r
      have hb8 : Below (w3.heap.size + 1 + 1 + 1) w7 w8 := (below_grown hG hnv (by omega)).trans (below_grown hgrow2 (own_ge o2W) (by have := hG.size; omega))
      have y1 := (hj7.l1.below hb8 (by omega)).at 0 rfl
      have y2 := (hj7.l1.below hb8 (by omega)).free 0
      have y3 := (hj7.l2.below hb8 (by omega)).at 0 rfl
      have y4 := (hj7.l2.below hb8 (by omega)).free 0
      have HX := Lib.hid (And.intro (hj7.add hG hgrow2 ht8).loop hj9)
      clear hj9 ht8 hb8 hown2 hgrow2 hat2 hlt2 o2W hi0 hz0 hz1 hz2 hj7 hown1 hat1 hrx hgx hgg hG hW2 hnb2 e1 e2 e3 e4 hnv hnl HJ7 HCC
      go_wp2_with fail
      refine onlyN_intro ?_
      gi_wp2_with fail
      exact ⟨HX.out.1, rfl, _, _, _, _, HX.out.2⟩
  · rintro e W ⟨⟨v, rfl⟩, ⟨v1, v2, Af, c, hj⟩ | hfalse⟩
    · refine ⟨⟨_, rfl⟩, .inl ⟨hj.loop, ?_⟩⟩
      have hdl : (trWay g A ap days D dp snow soak lv L lp rn R rp).days.length = days.length := rfl
      rw [hdl] at hj
      clear hdl
      have hj1 := hj.put (overOf r)
      obtain ⟨A1, c1, rfl⟩ := own_form hj1.tab.own1
      obtain ⟨A2, c2, rfl⟩ := own_form hj1.tab.own2
      obtain ⟨w7, hw7⟩ : ∃ w7, w7 = W.putObj (w3.heap.size + 1 + 1) (.loop (overOf r)) := ⟨_, rfl⟩
      rw [← hw7] at hj1 ⊢
      have e1 := hj1.l1.at 0 rfl
      have e2 := hj1.l2.at 0 rfl
      have f1 := hj1.l1.free 0
      have f2 := hj1.l2.free 0
      have e3 := (hj1.keep.whole hcc.var (by have := hcc.ne; omega)).at 0 rfl
      have e4 := hj1.way'.blk.at 19 (v := vi (stR g days snow soak lv rn days.length).snow) rfl
      have HJ7 := Lib.hid hj1
      have HCC := Lib.hid hcc
      clear hj1 hj r1 r2 r3 r4 r5 r6 hcc hw7 HB hok
      gi_wp2_with fail
      refine outer_words (by kernel_rfl) (fun _ _ h => h) (region_told 8 (by kernel_rfl) (by kernel_rfl) (fun W => Below w7.heap.size w7 W) newer (pickD [vIs (.slice A1 days.length c1), vIs (.slice A2 days.length c2), vIs (.pointer (some ⟨lb, 0, none⟩)), vIs (.pointer (some ⟨lb, 0, none⟩)), vIs (.pointer (some ⟨lb, 19, none⟩)), vIs (vi (stR g days snow soak lv rn days.length).snow), fun _ _ => True, fun _ _ => True]) (fun h k => newer_trans h k) (pickD_stable _ ⟨vIs_st, vIs_st, vIs_st, vIs_st, vIs_st, vIs_st, fun _ _ _ h _ => h, fun _ _ _ h _ => h, trivial⟩) (Below.refl _ w7).drew (Below.refl _ _) ?_ ?_)
      · refine ⟨?_, ?_, ?_, ?_, ?_, ?_, ?_, ?_, trivial⟩
        · intro a W hG hR hO hp
          have h6 := hO.slot 6 (by kernel_rfl)
          have c0 := keep_cell e1 hG
          refine wp_yields (v := .slice A1 days.length c1) ?_ ⟨_, rfl, rfl, Below.refl _ _, hG⟩
          simp [slotOf] at h6
          simp [execOp, go_sem, h6, c0]
        · intro a W hG hR hO hp
          have h7 := hO.slot 7 (by kernel_rfl)
          have c0 := keep_cell e2 hG
          refine wp_yields (v := .slice A2 days.length c2) ?_ ⟨_, rfl, rfl, Below.refl _ _, hG⟩
          simp [slotOf] at h7
          simp [execOp, go_sem, h7, c0]
        · intro a W hG hR hO hp
          have h11 := hO.slot 11 (by kernel_rfl)
          have c0 := keep_cell e3 hG
          refine wp_yields (v := .pointer (some ⟨lb, 0, none⟩)) ?_ ⟨_, rfl, rfl, Below.refl _ _, hG⟩
          simp [slotOf] at h11
          simp [execOp, go_sem, h11, c0]
        · intro a W hG hR hO hp
          have h45 : slotOf a 45 = .pointer (some ⟨lb, 0, none⟩) := hp.1
          refine wp_yields (v := .pointer (some ⟨lb, 0, none⟩)) ?_ ⟨_, rfl, rfl, Below.refl _ _, hG⟩
          simp [slotOf] at h45
          simp [execOp, go_sem, h45]
        · intro a W hG hR hO hp
          have h46 : slotOf a 46 = .pointer (some ⟨lb, 0, none⟩) := hp.1
          refine wp_yields (v := .pointer (some ⟨lb, 19, none⟩)) ?_ ⟨_, rfl, rfl, Below.refl _ _, hG⟩
          simp [slotOf] at h46
          simp [execOp, go_sem, h46]
        · intro a W hG hR hO hp
          have h47 : slotOf a 47 = .pointer (some ⟨lb, 19, none⟩) := hp.1
          have c0 := keep_cell e4 hG
          refine wp_yields (v := vi (stR g days snow soak lv rn days.length).snow) ?_ ⟨_, rfl, rfl, Below.refl _ _, hG⟩
          simp [slotOf] at h47
          simp [execOp, go_sem, h47, c0]
        · intro a W hG hR hO hp
          have h6 := hO.slot 6 (by kernel_rfl)
          have h43 : slotOf a 43 = .slice A1 days.length c1 := hp.1
          have m0 := keep_cell e1 hG
          have m1 := keep_frozen f1 e1 hG
          refine wp_skips (W' := W) ?_ ⟨undef, rfl, trivial, Below.refl _ _, hG⟩
          simp [slotOf] at h6 h43
          simp [execOp, go_sem, h6, h43, m0, m1]
          exact setCell_same m0
        · intro a W hG hR hO hp
          have h7 := hO.slot 7 (by kernel_rfl)
          have h44 : slotOf a 44 = .slice A2 days.length c2 := hp.1
          have m0 := keep_cell e2 hG
          have m1 := keep_frozen f2 e2 hG
          refine wp_skips (W' := W) ?_ ⟨undef, rfl, trivial, Below.refl _ _, hG⟩
          simp [slotOf] at h7 h44
          simp [execOp, go_sem, h7, h44, m0, m1]
          exact setCell_same m0
      · intro W hG hR
        rintro _ rfl _ rfl _ rfl _ rfl _ rfl _ rfl
        change wpList _ _ _ _ _ _
        simp only [Act.put, List.setIfInBounds_toArray, List.set_cons_zero, List.set_cons_succ, List.drop_succ_cons, List.drop_zero]
        have hj8 := HJ7.out.newer hG
        have hs8 := (Array.getElem?_eq_some_iff.1 hj8.loop).1
        have d1 := hj8.dfr
        have p1 := grown_putL W (w3.heap.size + 1) (.deferred none)
        have b1 : Whole (W.putObj (w3.heap.size + 1) (.deferred none)) (w.heap.size + 1 + 1) 60 #[.slice A1 days.length c1] := hj8.l1.put (by omega) _
        have b2 : Whole (W.putObj (w3.heap.size + 1) (.deferred none)) (w.heap.size + 1 + 1 + 1) 43 #[.slice A2 days.length c2] := hj8.l2.put (by omega) _
        have x1 := b1.at 0 rfl
        have x2 := b2.at 0 rfl
        have HX : Hid (runs w g days snow soak lv rn (.returned (.tuple #[.slice A1 days.length c1, .slice A2 days.length c2, vi (stR g days snow soak lv rn days.length).snow, vi 0])) (W.putObj (w3.heap.size + 1) (.deferred none))) := by
          have t9 := hj8.tab.old p1 (by omega)
          have hk := HCC.out.below.size
          have a1 : Below w.heap.size w W := HCC.out.below.trans (hj8.keep.below hk (fun i hi => by omega))
          exact ⟨⟨_, _, Af, c, rfl, t9.base (by omega)⟩, a1.trans (below_of_grown p1 (by omega) (by omega))⟩
        clear p1 hj8 hs8 hG hR HJ7 HCC b1 b2 e1 e2 e3 e4 f1 f2
        go_wp2_with fail
        refine onlyN_intro ?_
        gi_wp2_with fail
        refine ⟨by simp, .inl ⟨_, _, rfl, run_takeDeferred d1, ?_⟩⟩
        refine ⟨_, ?_, HX.out⟩
        simp [results, Try.results32, go_sem, x1, x2]
    · exact hfalse.elim

theorem run_any (g : Gnd) (A : Option Addr) (ap : Nat) (days : List Day) (D : Option Addr) (dp : Nat) (snow soak : Int) (lv : List Int) (L : Option Addr) (lp : Nat) (rn : List Int) (R : Option Addr) (rp : Nat) (w : World) (hn : g.cells.length ≤ 1000) (hm : days.length ≤ 1000) (hl : lv.length ≤ 1000) (hr : rn.length ≤ 1000)
    (hc : Row cellL 7 w w.heap.size A g.cells) (hd : Row dayL 3 w w.heap.size D days) (hL : Row intL 1 w w.heap.size L lv) (hR : Row intL 1 w w.heap.size R rn) :
    Calls Try.prog 32 #[gndV A ap g, .slice D days.length dp, truthV snow soak L lv.length lp R rn.length rp] w (runOut w g days snow soak lv rn) := by
  by_cases hf : faultN g days = 0
  · cases hfit : fitsB g days snow soak lv rn with
    | true =>
      refine (run_ok g A ap days D dp snow soak lv L lp rn R rp w hn hm hl hr hc hd hL hR hf hfit).mono ?_
      rintro e w' ⟨h1, h2⟩
      exact ⟨by rw [if_pos hf, if_pos hfit]; exact h1, h2⟩
    | false =>
      refine (run_err2 g A ap days D dp snow soak lv L lp rn R rp w hn hm hl hr hc hd hL hR hf hfit).mono ?_
      rintro e w' ⟨h1, h2⟩
      exact ⟨by rw [if_pos hf, if_neg (by rw [hfit]; decide)]; exact h1, h2⟩
  · refine (run_err1 g A ap days D dp snow soak L lv.length lp R rn.length rp w hn hm hc hd hf).mono ?_
    rintro e w' ⟨h1, h2⟩
    exact ⟨by rw [if_neg hf]; exact h1, h2⟩
end Go.Proofs.Yteonkhohloabfaa
