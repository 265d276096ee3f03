/- What the last text of this chain needs: WtAT, WtAU, WtAW, WtAX, WtBA, WtBC, WtAJ, WtBG. -/
import Derived.Test.YtcdhhfgpdokkoaaGreatZH08
namespace Go.Proofs.YtcdhhfgpdokkoaaGreat
section
open Go.RowKit Go.Shelf
theorem wayOk_tr {g : Gnd} {days : List Day} {snow soak : Int} {lv rn : List Int} (h : faultN g days = 0) (hfit : fitsB g days snow soak lv rn = true) : WayOk g.cells g.melt soak days rn ⟨iAt lv, snow, 0⟩ := by
 have ok := wayOk_end false h
 obtain ⟨h1, _, h3⟩ := fault_zero h
 simp only [gndB, Bool.and_eq_true, inB, upB, decide_eq_true_eq] at h1
 obtain ⟨⟨⟨⟨⟨hn, hc⟩, hs⟩, hk⟩, hm⟩, _⟩ := h1
 simp only [fitsB, Bool.and_eq_true, inB, decide_eq_true_eq] at hfit
 obtain ⟨⟨⟨⟨⟨f1, f2⟩, f3⟩, f4⟩, f5⟩, f6⟩ := hfit
 refine ⟨ok.cells, ok.few, ok.melt0, ok.melt1, by omega, by omega, ok.ds, ok.many, fun i hi => ?_, f2, ⟨fun i hi => ?_, ?_, ?_, by simp, by simp⟩⟩
 ·have h4 := goodB_at f6 i hi
  simp only [rnB, inB, Bool.and_eq_true, decide_eq_true_eq] at h4
  have := ok.ds i hi
  have a := this.lo0; have b := this.lohi; have c := this.hi1
  omega
 ·have h4 := goodB_at f5 i hi
  simp only [lvB, inB, Bool.and_eq_true, decide_eq_true_eq] at h4
  have := ok.cells i hi
  have a := this.lo1; have b := this.lohi; have c' := this.hi2; have d := this.cap2
  dsimp only
  omega
 ·dsimp only; omega
 ·dsimp only; omega
theorem fits_lenW {g : Gnd} {days : List Day} {snow soak : Int} {lv rn : List Int} (hfit : fitsB g days snow soak lv rn = true) : lv.length = g.cells.length /\ rn.length = days.length := by
 simp only [fitsB, Bool.and_eq_true, decide_eq_true_eq] at hfit
 exact ⟨hfit.1.1.1.1.1, hfit.1.1.1.1.2⟩
theorem fault_some {g : Gnd} {days : List Day} (h : faultN g days = 0) : 1 <= g.cells.length /\ g.cells.length <= 8 := by
 obtain ⟨h1, _, _⟩ := fault_zero h
 simp only [gndB, Bool.and_eq_true, inB, upB, decide_eq_true_eq] at h1
 omega
theorem begin_tr (g : Gnd) (A : Option Addr) (ap : Nat) (days : List Day) (D : Option Addr) (dp : Nat) (snow soak : Int) (lv : List Int) (L : Option Addr) (lp : Nat) (rn : List Int) (R : Option Addr) (rp : Nat) (w : World) (h8 : lv.length <= 8) (hc : Row cellL 7 w w.heap.size A g.cells) (hd : Row dayL 3 w w.heap.size D days)
  (hl : Row intL 1 w w.heap.size L lv) (hr : Row intL 1 w w.heap.size R rn) :
  Calls Tryz.prog 36 #[gndV A ap g, .slice D days.length dp, truthV snow soak L lv.length lp R rn.length rp] w (begun w (trWay g A ap days D dp snow soak lv L lp rn R rp)) :=
 begin_any (trWay g A ap days D dp snow soak lv L lp rn R rp) w h8 hc hd hl hr
def vRow1W (H n : Nat) (f : Nat -> Int) (v : Value) (W : World) : Prop := ∃ nb A c, v = .slice (some ⟨nb, 0, none⟩) 1 1 /\ H <= nb /\ Whole W nb 60 #[.slice A n c] /\ Row intL 1 W W.heap.size A ((List.range n).map f) /\ ∀ a, A = some a -> H <= a.block /\ a.block < W.heap.size
theorem vRow1_grownW {H n : Nat} {f : Nat -> Int} {row : Option Nat} (hr : ∀ q, row = some q -> q < H) : ∀ v W W', vRow1W H n f v W -> W.grownBy W' row -> vRow1W H n f v W' :=
 fun _ _ _ ⟨nb, A, c, h1, h0, h4, h2, h3⟩ hg => ⟨nb, A, c, h1, h0, h4.grown hg (by intro e; have := hr nb e.symm; omega), h2.grownNe hg (Nat.le_refl _) hg.size (fun a e e' => by have := hr _ e'; have := (h3 a e).1; omega), fun a e => ⟨(h3 a e).1, Nat.lt_of_lt_of_le (h3 a e).2 hg.size⟩⟩
def vAppRW (H base n k : Nat) (xs : List Value) (f : Nat -> Int) (row : Option Nat) (v : Value) (W : World) : Prop :=
 ∃ gg cap A c, v = .slice (some ⟨gg, 0, none⟩) (k + 1) cap /\ W.ownsRow base 60 1 (.slice (some ⟨gg, 0, none⟩) (k + 1) cap) (k + 1) (xs ++ [.slice A n c]) /\ (row = some gg ∨ H <= gg) /\ Row intL 1 W W.heap.size A ((List.range n).map f) /\ (∀ a, A = some a -> H <= a.block /\ a.block < W.heap.size) /\ ∀ a, A = some a -> a.block ≠ gg
theorem vAppR_stW {H base n k : Nat} {xs : List Value} {f : Nat -> Int} {row : Option Nat} : ∀ v W W', vAppRW H base n k xs f row v W -> newer W W' -> vAppRW H base n k xs f row v W' :=
 fun _ _ _ ⟨gg, cap, A, c, h1, h2, h3, h4, h5, h6⟩ hb => ⟨gg, cap, A, c, h1, own_below h2 hb, h3, (h4.below hb).more hb.size, fun a e => ⟨(h5 a e).1, Nat.lt_of_lt_of_le (h5 a e).2 hb.size⟩, h6⟩
theorem TabRW.base {W : World} {base base' n : Nat} {v1 v2 : Value} {A : Nat -> Option Addr} {c : Nat -> Nat} {k : Nat} {f : Nat -> Nat -> Int} {sl : Nat -> Int} (h : TabRW W base' n v1 v2 A c k f sl) (hb : base <= base') : TabRW W base n v1 v2 A c k f sl :=
 ⟨own_more h.own1 hb, own_more h.own2 hb, h.rows, fun j hj a e => ⟨Nat.le_trans hb (h.low j hj a e).1, (h.low j hj a e).2⟩, h.apart1, h.apart2⟩
def runs (w : World) (g : Gnd) (days : List Day) (snow soak : Int) (lv rn : List Int) (e : Ending) (w' : World) : Prop :=
 (∃ v1 v2 A c, e = .returned (.tuple #[v1, v2, vi (stR g days snow soak lv rn days.length).snow, vi 0]) /\
    TabRW w' w.heap.size g.cells.length v1 v2 A c days.length (fun j i => (stR g days snow soak lv rn (j + 1)).f i) (fun j => (stR g days snow soak lv rn (j + 1)).left)) /\ Below w.heap.size w w'
attribute [local go_sem] Oper.semAt_some
set_option maxRecDepth 100000 in
set_option maxHeartbeats 2000000 in
theorem run_ok (g : Gnd) (A : Option Addr) (ap : Nat) (days : List Day) (D : Option Addr) (dp : Nat) (snow soak : Int) (lv : List Int) (L : Option Addr) (lp : Nat) (rn : List Int) (R : Option Addr) (rp : Nat) (w : World) (hn : g.cells.length <= 1000) (hm : days.length <= 1000) (hl : lv.length <= 1000) (hr : rn.length <= 1000)
  (hc : Row cellL 7 w w.heap.size A g.cells) (hd : Row dayL 3 w w.heap.size D days) (hL : Row intL 1 w w.heap.size L lv) (hR : Row intL 1 w w.heap.size R rn) (hf : faultN g days = 0) (hfit : fitsB g days snow soak lv rn = true) :
  Calls Tryz.prog 16 #[gndV A ap g, .slice D days.length dp, truthV snow soak L lv.length lp R rn.length rp] w (runs w g days snow soak lv rn) := by
 have HC := Lib.hid hc
 have HD := Lib.hid hd
 have HL := Lib.hid hL
 have HR := Lib.hid hR
 have HF := Lib.hid hf
 have HOK := Lib.hid (wayOk_tr hf hfit)
 have h8 := (fault_some hf).2
 have h1 := (fault_some hf).1
 have hlv : lv.length <= 8 := by rw [(fits_lenW hfit).1]; exact h8
 have HFit := Lib.hid hfit
 clear hc hd hf hL hR hfit
 refine callsIn_wide.1 (callsIn_of_wp_marks (n := 9) Tryz.func16 rfl trivial ?_ rfl)
 simp only [Tryz.ntmps16, List.size_toArray, List.length_cons, List.length_nil, Nat.reduceAdd, Nat.reduceSub, Array.replicate_succ, Array.replicate_zero, List.push_toArray, List.append_toArray, List.nil_append, List.cons_append]
 gi_wp2_with fail
 refine ⟨trivial, (callsIn_wide.2 (check_anyW g ap A days dp D _ hn hm (row_alloc (row_alloc (row_alloc (row_alloc HC.out (.cells (gndC A ap g) 54)) (.cells (truC snow soak L lv.length lp R rn.length rp) 64)) (.cells #[.slice none 0 0] 59)) (.cells #[.slice none 0 0] 60)) (row_alloc (row_alloc (row_alloc (row_alloc HD.out _) _) _) _))).mono ?_⟩
 rintro e w1 ⟨rfl, hb⟩
 rw [HF.out]
 have HA := Lib.hid ((RnAW.made w (gndC A ap g) (truC snow soak L lv.length lp R rn.length rp)).later hb)
 clear hb
 have g0 := HA.out.gb.at 0 rfl
 have g1 := HA.out.gb.at 1 rfl
 have g2 := HA.out.gb.at 2 rfl
 have g3 := HA.out.gb.at 3 rfl
 have g4 := HA.out.gb.at 4 rfl
 have g5 := HA.out.gb.at 5 rfl
 have t0 := HA.out.tb.at 0 rfl
 have t1 := HA.out.tb.at 1 rfl
 have t2 := HA.out.tb.at 2 rfl
 have t3 := HA.out.tb.at 3 rfl
 gi_wp2_with fail
 refine ⟨trivial, (callsIn_wide.2 (has_any67 g A ap days D dp snow soak lv L lp rn R rp _ hn hm hl hr ((HC.out.below HA.out.below).more HA.out.below.size) ((HD.out.below HA.out.below).more HA.out.below.size) ((HL.out.below HA.out.below).more HA.out.below.size) ((HR.out.below HA.out.below).more HA.out.below.size))).mono ?_⟩
 rw [HFit.out]
 rintro e w2 ⟨rfl, hb⟩
 have HA2 := Lib.hid (HA.out.later hb)
 clear hb HA g0 g1 g2 g3 g4 g5 t0 t1 t2 t3
 have g0 := HA2.out.gb.at 0 rfl
 have g1 := HA2.out.gb.at 1 rfl
 have g2 := HA2.out.gb.at 2 rfl
 have g3 := HA2.out.gb.at 3 rfl
 have g4 := HA2.out.gb.at 4 rfl
 have g5 := HA2.out.gb.at 5 rfl
 have t0 := HA2.out.tb.at 0 rfl
 have t1 := HA2.out.tb.at 1 rfl
 have t2 := HA2.out.tb.at 2 rfl
 have t3 := HA2.out.tb.at 3 rfl
 gi_wp2_with fail
 refine ⟨trivial, (callsIn_wide.2 (begin_tr g A ap days D dp snow soak lv L lp rn R rp _ hlv ((HC.out.below HA2.out.below).more HA2.out.below.size) ((HD.out.below HA2.out.below).more HA2.out.below.size) ((HL.out.below HA2.out.below).more HA2.out.below.size) ((HR.out.below HA2.out.below).more HA2.out.below.size))).mono ?_⟩
 rintro e w3' ⟨lb, rfl, hlb, hway, hb⟩
 have hs2 := HA2.out.l2.lt
 have HA3 := Lib.hid (And.intro (HA2.out.later hb) (And.intro hway (show w.heap.size + 1 + 1 + 1 < lb by omega)))
 clear hb HA2 g0 g1 g2 g3 g4 g5 t0 t1 t2 t3 hway hlb hs2
 gi_wp2_with fail
 refine ⟨trivial, (callsIn_wide.2 (after_any _ _)).mono ?_⟩
 rintro e w' ⟨rfl, rfl⟩
 have HB : Hid (RnB w (trWay g A ap days D dp snow soak lv L lp rn R rp) ⟨iAt lv, snow, 0⟩ w3'.heap.size lb (w3'.alloc (.cells #[.pointer (some ⟨lb, 0, none⟩)] 103))) := by
  obtain ⟨ha, hway, hlb⟩ := HA3.out
  have hl2 := ha.l2.lt
  have hlt := hway.blk.lt
  exact ⟨ha.below.alloc ha.below.size _, ha.l1.alloc _, ha.l2.alloc _, Whole.made _ _ _, hway.alloc _, by omega, by omega, by omega⟩
 obtain ⟨w3, hw3⟩ : ∃ w3, w3 = w3'.alloc (.cells #[.pointer (some ⟨lb, 0, none⟩)] 103) := ⟨_, rfl⟩
 rw [<- hw3] at HB ⊢
 obtain ⟨vb, hvb⟩ : ∃ vb, vb = w3'.heap.size := ⟨_, rfl⟩
 rw [<- hvb] at HB ⊢
 clear hw3 hvb HA3 w3'
 gi_wp2_with fail
 obtain ⟨r0, hr0⟩ : ∃ r0 : Unit, r0 = () := ⟨_, rfl⟩
 refine range_law (gf := 67) (lb := #[.pointer (some ⟨w3.heap.size, 0, none⟩)]) rfl (enters_of Tryz.func67 (by kernel_rfl) rfl) ?_
 intro r r1 r2 r3 r4 r5 r6
 simp only [World.size_alloc]
 have hcc := HB.out
 have hf1 := hcc.far1
 have hf2 := hcc.far2
 have hlo := hcc.way.blk.lt
 have hvl := hcc.var.lt
 have hok := HOK.out
 have hmany := hok.many
 refine (callsIn_wide.1 (after1_in 8 (w3.heap.size + 1 + 1) w3.heap.size lb (trWay g A ap days D dp snow soak lv L lp rn R rp) ⟨iAt lv, snow, 0⟩ hok
  (fun k W => ∃ v1 v2 Af c, RnJ w w3 g.cells.length lb (trWay g A ap days D dp snow soak lv L lp rn R rp) (stR g days snow soak lv rn k) r v1 v2 Af c k (fun j i => (stR g days snow soak lv rn (j + 1)).f i) (fun j => (stR g days snow soak lv rn (j + 1)).left) W)
  (fun _ => False) ?hJ ?hY _ ?h0)).mono ?_
 case hJ =>
  rintro k W ⟨v1, v2, Af, c, hj⟩
  exact ⟨hj.box.at 0 rfl, by omega, hj.way'⟩
 case h0 =>
  refine ⟨_, _, fun _ => none, fun _ => 0, ?_, ?_, ?_, ?_, ((hcc.l1.alloc _).alloc _).alloc _, ((hcc.l2.alloc _).alloc _).alloc _, ((hcc.way.alloc _).alloc _).alloc _, TabRW.empty_ _ _ _ _ _ _ _, by omega⟩
  ·(simp only [heap_if, World.size_alloc]; (repeat rw [if_neg (by omega)]); rfl)
  ·(simp only [heap_if, World.size_alloc]; (repeat rw [if_neg (by omega)]); rfl)
  ·(simp only [Whole, heap_if, World.size_alloc]; (repeat rw [if_neg (by omega)]); rfl)
  ·exact (Kept.refl _ w3).newer ((((Below.refl _ _).alloc (Nat.le_refl _) _).alloc (by simp) _).alloc (by simp; omega) _)
 case hY =>
  rintro k W W' hk ⟨v1, v2, Af, c, hj⟩ hg hw'
  have hj1 := hj.way (x' := stR g days snow soak lv rn (k + 1)) hg hw'
  refine yield_round (r := r) hj1.loop r1 r2 (by rw [r4]; rfl) ?_
  rw [r3, r4, r5, r6]
  simp only [List.zip_toArray, List.zip_cons_cons, List.zip_nil_right, List.foldl_toArray, List.foldl_cons, List.foldl_nil, List.setIfInBounds_toArray, List.set_cons_zero, List.set_cons_succ]
  gi_wp2_with fail
  refine ⟨hj1.loop, ?_⟩
  have hj5 := hj1.put (busyOf r)
  obtain ⟨w7, hw7⟩ : ∃ w7, w7 = W'.putObj (w3.heap.size + 1 + 1) (.loop (busyOf r)) := ⟨_, rfl⟩
  rw [<- hw7] at hj5 ⊢
  clear hw7 hj1 hj hg hw' W W'
  obtain ⟨A1, c1, rfl⟩ := own_form hj5.tab.own1
  obtain ⟨A2, c2, rfl⟩ := own_form hj5.tab.own2
  have hnv := own_ge hj5.tab.own1
  have hnl := own_lt hj5.tab.own1
  have e1 := hj5.l1.at 0 rfl
  have e2 := hj5.l2.at 0 rfl
  have e3 := (hj5.keep.whole hcc.var (by have := hcc.ne; omega)).at 0 rfl
  have e4 := hj5.way'.blk.at 20 (v := vi (stR g days snow soak lv rn (k + 1)).left) rfl
  have hbase := (Array.getElem?_eq_some_iff.1 hj5.loop).1
  have hbase : w3.heap.size + 1 + 1 + 1 <= w7.heap.size := by omega
  have HJ7 := Lib.hid hj5
  obtain ⟨i43, hi0, hz0, hz1, hz2⟩ := info_parts Tryz.info60
  have HI43 := Lib.hid (And.intro hi0 (And.intro hz0 (And.intro hz1 hz2)))
  clear hi0 hz0 hz1 hz2
  obtain ⟨i3, hi0, hz0, hz1, hz2⟩ := info_parts Tryz.info3
  have HI3 := Lib.hid (And.intro hi0 (And.intro hz0 (And.intro hz1 hz2)))
  have hkd : k < days.length := hk
  have HCC := Lib.hid hcc
  clear hi0 hz0 hz1 hz2 hj5 hcc hok r1 r2 r3 r4 r5 r6 HB
  gi_wp2_with fail
  refine round_words (by kernel_rfl) (by kernel_rfl) (fun _ _ h => h) (region_tale 11 (by kernel_rfl) (by kernel_rfl) 4 (fun W => w7.grownBy W (Value.slice A1 k c1).ownBlock) (fun W => W.ownsRow (w3.heap.size + 1 + 1 + 1) 60 1 (.slice A1 k c1) k ((List.range k).map fun j => Value.slice (Af j) g.cells.length (c j))) (relAt 4 (fun W W' => W.grownBy W' (Value.slice A1 k c1).ownBlock)) (pickD [vIs (.slice A1 k c1), vIs (.pointer (some ⟨lb, 0, none⟩)), vRowR w7.heap.size g.cells.length (stR g days snow soak lv rn (k + 1)).f, vRow1W w7.heap.size g.cells.length (stR g days snow soak lv rn (k + 1)).f, vAppRW w7.heap.size (w3.heap.size + 1 + 1 + 1) g.cells.length k ((List.range k).map fun j => Value.slice (Af j) g.cells.length (c j)) (stR g days snow soak lv rn (k + 1)).f (Value.slice A1 k c1).ownBlock, vIs (.slice A2 k c2), vIs (.pointer (some ⟨lb, 0, none⟩)), vIs (.pointer (some ⟨lb, 0, none⟩)), vIs (.pointer (some ⟨lb, 20, none⟩)), vIs (vi (stR g days snow soak lv rn (k + 1)).left), vOne w7.heap.size 3 #[vi (stR g days snow soak lv rn (k + 1)).left]]) (allBut_ok (fun _ _ h => grown_of_newer h _) _ ⟨vIs_st, vIs_st, vRowR_grown hnl, vRow1_grownW hnl, vAppR_stW, vIs_st, vIs_st, vIs_st, vIs_st, vIs_st, vOne_grown hnl, trivial⟩) (by decide) (grown_drew (grown_refl _ _)) HJ7.out.tab.own1 ?_ ?_)
  ·refine ⟨?_, ?_, ?_, ?_, ?_, ?_, ?_, ?_, ?_, ?_, ?_, trivial⟩
   ·intro a W hG hG1 hO hp; have h6 := hO.slot 6 (by kernel_rfl); have c0 := keep_low e1 hG hnv (by dsimp only; omega); refine wp_yields (v := .slice A1 k c1) ?_ ⟨_, rfl, rfl, newer_refl _, hG, fun _ h => h⟩; simp [slotOf] at h6; simp [execOp, go_sem, h6, c0]
   ·intro a W hG hG1 hO hp; have h11 := hO.slot 11 (by kernel_rfl); have c0 := keep_low e3 hG hnv (by dsimp only; omega); refine wp_yields (v := .pointer (some ⟨lb, 0, none⟩)) ?_ ⟨_, rfl, rfl, newer_refl _, hG, fun _ h => h⟩; simp [slotOf] at h11; simp [execOp, go_sem, h11, c0]
   ·intro a W hG hG1 hO hp
    have h32 : slotOf a 32 = .pointer (some ⟨lb, 0, none⟩) := hp.1
    have hbw := below_grown hG hnv hbase
    refine wp_enters (f := 45) (args := #[.pointer (some ⟨lb, 0, none⟩)]) ?_ ((now_any _ _ _ _ _ W (HJ7.out.way'.below hbw (by omega)) h8).mono ?_)
    ·simp [slotOf] at h32
     simp [go_sem, h32]
    ·rintro e w' ⟨Ax, cx, rfl, hr2, hb, hge⟩
     have hr3 : Row intL 1 w' w'.heap.size Ax ((List.range g.cells.length).map (stR g days snow soak lv rn (k + 1)).f) := hr2
     exact ⟨_, rfl, _, rfl, ⟨Ax, cx, by simp [trWay], hr3, fun a e => ⟨Nat.le_trans hG.size (hge a e), row_some hr3 (range_ne h1) a e⟩⟩, hb, grown_below hG hb, fun hne h => own_below h hb⟩
   ·intro a W hG hG1 hO hp; have h33 := hp.1; obtain ⟨Ax, cx, h33, hr3, hge⟩ := h33; refine wp_makes (v := .slice (some ⟨W.heap.size, 0, none⟩) 1 1) (W' := W.alloc (.cells #[.slice Ax g.cells.length cx] 60)) ?_ ⟨_, rfl, ⟨W.heap.size, Ax, cx, rfl, hG.size, Whole.made _ _ _, row_alloc hr3 _, fun a e => ⟨(hge a e).1, by have := (hge a e).2; simp; omega⟩⟩, (Below.refl _ _).alloc (Nat.le_refl _) _, grown_alloc hG _, fun _ h => h.alloc _⟩; simp [slotOf] at h33; simp [execOp, go_sem, h33]
   ·intro a W hG hG1 hO hp
    have h31 : slotOf a 31 = .slice A1 k c1 := hp.1
    have h34 := hp.2.1
    obtain ⟨nb, Ax, cx, h34, hnb, hW, hr3, hge⟩ := h34
    have ho := hG1 rfl
    obtain ⟨hi0, hz0, hz1, hz2⟩ := HI43.out
    refine wp_append_lies W (.tmp 31) (.tmp 34) 59 rfl (w3.heap.size + 1 + 1 + 1) 60 i43 (.slice none 0 0) 1 24 Tryz.underlying59 hi0 hz0 hz1 hz2 rfl (by omega) (.slice A1 k c1) k _ ((eval_slot a 31).trans h31) ho ⟨nb, 0, none⟩ 1 1 [.slice Ax g.cells.length cx] ((eval_slot a 34).trans h34) rfl (World.news_of_block hW) (by simp [Value.oneCell']) (by omega) (by unfold maxLen; omega) (by omega) (by have := hG.size; omega) W.heap.size rfl ?_
    intro gg cap w1 hown1 hgrow hat hlt1
    have hne : ∀ a, Ax = some a -> (Value.slice A1 k c1).ownBlock ≠ some a.block := fun a e e' => by have := hnl _ e'; have := (hge a e).1; omega
    exact ⟨_, rfl, ⟨gg, cap, Ax, cx, rfl, hown1, hat.imp id (fun e => by have := hG.size; omega), hr3.grownNe hgrow (Nat.le_refl _) hgrow.size hne, fun a e => ⟨(hge a e).1, Nat.lt_of_lt_of_le (hge a e).2 hgrow.size⟩, fun a e e' => by rcases hat with h | h; (exact hne a e (by rw [e']; exact h)); (have := (hge a e).2; omega)⟩, hgrow, grown_trans' hG hgrow, fun e => absurd rfl e⟩
   ·intro a W hG hG1 hO hp; have h7 := hO.slot 7 (by kernel_rfl); have c0 := keep_low e2 hG hnv (by dsimp only; omega); refine wp_yields (v := .slice A2 k c2) ?_ ⟨_, rfl, rfl, newer_refl _, hG, fun _ h => h⟩; simp [slotOf] at h7; simp [execOp, go_sem, h7, c0]
   ·intro a W hG hG1 hO hp; have h11 := hO.slot 11 (by kernel_rfl); have c0 := keep_low e3 hG hnv (by dsimp only; omega); refine wp_yields (v := .pointer (some ⟨lb, 0, none⟩)) ?_ ⟨_, rfl, rfl, newer_refl _, hG, fun _ h => h⟩; simp [slotOf] at h11; simp [execOp, go_sem, h11, c0]
   ·intro a W hG hG1 hO hp; have h37 : slotOf a 37 = .pointer (some ⟨lb, 0, none⟩) := hp.1; refine wp_yields (v := .pointer (some ⟨lb, 0, none⟩)) ?_ ⟨_, rfl, rfl, newer_refl _, hG, fun _ h => h⟩; simp [slotOf] at h37; simp [execOp, go_sem, h37]
   ·intro a W hG hG1 hO hp; have h38 : slotOf a 38 = .pointer (some ⟨lb, 0, none⟩) := hp.1; refine wp_yields (v := .pointer (some ⟨lb, 20, none⟩)) ?_ ⟨_, rfl, rfl, newer_refl _, hG, fun _ h => h⟩; simp [slotOf] at h38; simp [execOp, go_sem, h38]
   ·intro a W hG hG1 hO hp; have h39 : slotOf a 39 = .pointer (some ⟨lb, 20, none⟩) := hp.1; have c0 := keep_low e4 hG hnv (by dsimp only; omega); refine wp_yields (v := vi (stR g days snow soak lv rn (k + 1)).left) ?_ ⟨_, rfl, rfl, newer_refl _, hG, fun _ h => h⟩; simp [slotOf] at h39; simp [execOp, go_sem, h39, c0]
   ·intro a W hG hG1 hO hp; have h40 : slotOf a 40 = vi (stR g days snow soak lv rn (k + 1)).left := hp.1; refine wp_makes (v := .slice (some ⟨W.heap.size, 0, none⟩) 1 1) (W' := W.alloc (.cells #[vi (stR g days snow soak lv rn (k + 1)).left] 3)) ?_ ⟨_, rfl, ⟨_, rfl, hG.size, Whole.made _ _ _⟩, (Below.refl _ _).alloc (Nat.le_refl _) _, grown_alloc hG _, fun _ h => h.alloc _⟩; simp [slotOf] at h40; simp [execOp, go_sem, h40]
  ·intro W hG
   rintro _ rfl _ rfl _ hv33 _ hv34 _ ⟨gg, cap, Ax, cx, rfl, hown1, hat1, hrx, hgx, hgg⟩ _ rfl _ rfl _ rfl _ rfl _ rfl _ ⟨nb2, rfl, hnb2, hW2⟩
   change wpList _ _ _ _ _ _
   simp only [Act.put, List.setIfInBounds_toArray, List.set_cons_zero, List.set_cons_succ, List.drop_succ_cons, List.drop_zero]
   have hj7 := HJ7.out
   obtain ⟨hi0, hz0, hz1, hz2⟩ := HI3.out
   have o2W : W.ownsRow (w3.heap.size + 1 + 1 + 1) 3 1 (.slice A2 k c2) k ((List.range k).map fun j => vi ((fun j => (stR g days snow soak lv rn (j + 1)).left) j)) := by
    rcases Option.eq_none_or_eq_some (Value.slice A2 k c2).ownBlock with e | ⟨z, e⟩
    ·exact hj7.tab.own2.kept hG (.inl e)
    ·exact hj7.tab.own2.kept hG (.inr (fun e' => own_own_ne hj7.tab.own2 hj7.tab.own1 (by decide) z e (e'.symm.trans e)))
   refine wpList_append_lies _ rfl (.tmp 36) (.tmp 41) 60 rfl (w3.heap.size + 1 + 1 + 1) 3 i3 (.int .i64 0) 1 8 Tryz.underlying60 hi0 hz0 hz1 hz2 rfl (by omega) _ k _ rfl o2W ⟨nb2, 0, none⟩ 1 1 [vi (stR g days snow soak lv rn (k + 1)).left] rfl rfl (World.news_of_block hW2) (by simp [Value.oneCell']) (by omega) (by unfold maxLen; omega) (by omega) (by have := hG.size; omega) W.heap.size rfl ?_
   intro g2 cp2 w8 hown2 hgrow2 hat2 hlt2
   have ht8 := hj7.tab.add hrx hgx hbase hG hown1 hat1 hgg hgrow2 hown2 (hat2.imp id (fun e => by omega))
   have hj9 := (hj7.add hG hgrow2 ht8).put r
   have hb8 : Below (w3.heap.size + 1 + 1 + 1) w7 w8 := (below_grown hG hnv (by omega)).trans (below_grown hgrow2 (own_ge o2W) (by have := hG.size; omega))
   have y1 := (hj7.l1.below hb8 (by omega)).at 0 rfl
   have y2 := (hj7.l1.below hb8 (by omega)).free 0
   have y3 := (hj7.l2.below hb8 (by omega)).at 0 rfl
   have y4 := (hj7.l2.below hb8 (by omega)).free 0
   have HX := Lib.hid (And.intro (hj7.add hG hgrow2 ht8).loop hj9)
   clear hj9 ht8 hb8 hown2 hgrow2 hat2 hlt2 o2W hi0 hz0 hz1 hz2 hj7 hown1 hat1 hrx hgx hgg hG hW2 hnb2 e1 e2 e3 e4 hnv hnl HJ7 HCC
   go_wp2_with fail
   refine onlyN_intro ?_
   gi_wp2_with fail
   exact ⟨HX.out.1, rfl, _, _, _, _, HX.out.2⟩
 ·rintro e W ⟨⟨v, rfl⟩, ⟨v1, v2, Af, c, hj⟩ | hfalse⟩
  ·refine ⟨⟨_, rfl⟩, .inl ⟨hj.loop, ?_⟩⟩
   have hdl : (trWay g A ap days D dp snow soak lv L lp rn R rp).days.length = days.length := rfl
   rw [hdl] at hj
   clear hdl
   have hj1 := hj.put (overOf r)
   obtain ⟨A1, c1, rfl⟩ := own_form hj1.tab.own1
   obtain ⟨A2, c2, rfl⟩ := own_form hj1.tab.own2
   obtain ⟨w7, hw7⟩ : ∃ w7, w7 = W.putObj (w3.heap.size + 1 + 1) (.loop (overOf r)) := ⟨_, rfl⟩
   rw [<- hw7] at hj1 ⊢
   have e1 := hj1.l1.at 0 rfl
   have e2 := hj1.l2.at 0 rfl
   have f1 := hj1.l1.free 0
   have f2 := hj1.l2.free 0
   have e3 := (hj1.keep.whole hcc.var (by have := hcc.ne; omega)).at 0 rfl
   have e4 := hj1.way'.blk.at 19 (v := vi (stR g days snow soak lv rn days.length).snow) rfl
   have HJ7 := Lib.hid hj1
   have HCC := Lib.hid hcc
   clear hj1 hj r1 r2 r3 r4 r5 r6 hcc hw7 HB hok
   gi_wp2_with fail
   refine outer_words (by kernel_rfl) (fun _ _ h => h) (region_told 8 (by kernel_rfl) (by kernel_rfl) (fun W => Below w7.heap.size w7 W) newer (pickD [vIs (.slice A1 days.length c1), vIs (.slice A2 days.length c2), vIs (.pointer (some ⟨lb, 0, none⟩)), vIs (.pointer (some ⟨lb, 0, none⟩)), vIs (.pointer (some ⟨lb, 19, none⟩)), vIs (vi (stR g days snow soak lv rn days.length).snow), fun _ _ => True, fun _ _ => True]) (fun h k => newer_trans h k) (pickD_stable _ ⟨vIs_st, vIs_st, vIs_st, vIs_st, vIs_st, vIs_st, fun _ _ _ h _ => h, fun _ _ _ h _ => h, trivial⟩) (Below.refl _ w7).drew (Below.refl _ _) ?_ ?_)
   ·refine ⟨?_, ?_, ?_, ?_, ?_, ?_, ?_, ?_, trivial⟩
    ·intro a W hG hR hO hp; have h6 := hO.slot 6 (by kernel_rfl); have c0 := keep_cell e1 hG; refine wp_yields (v := .slice A1 days.length c1) ?_ ⟨_, rfl, rfl, Below.refl _ _, hG⟩; simp [slotOf] at h6; simp [execOp, go_sem, h6, c0]
    ·intro a W hG hR hO hp; have h7 := hO.slot 7 (by kernel_rfl); have c0 := keep_cell e2 hG; refine wp_yields (v := .slice A2 days.length c2) ?_ ⟨_, rfl, rfl, Below.refl _ _, hG⟩; simp [slotOf] at h7; simp [execOp, go_sem, h7, c0]
    ·intro a W hG hR hO hp; have h11 := hO.slot 11 (by kernel_rfl); have c0 := keep_cell e3 hG; refine wp_yields (v := .pointer (some ⟨lb, 0, none⟩)) ?_ ⟨_, rfl, rfl, Below.refl _ _, hG⟩; simp [slotOf] at h11; simp [execOp, go_sem, h11, c0]
    ·intro a W hG hR hO hp; have h45 : slotOf a 45 = .pointer (some ⟨lb, 0, none⟩) := hp.1; refine wp_yields (v := .pointer (some ⟨lb, 0, none⟩)) ?_ ⟨_, rfl, rfl, Below.refl _ _, hG⟩; simp [slotOf] at h45; simp [execOp, go_sem, h45]
    ·intro a W hG hR hO hp; have h46 : slotOf a 46 = .pointer (some ⟨lb, 0, none⟩) := hp.1; refine wp_yields (v := .pointer (some ⟨lb, 19, none⟩)) ?_ ⟨_, rfl, rfl, Below.refl _ _, hG⟩; simp [slotOf] at h46; simp [execOp, go_sem, h46]
    ·intro a W hG hR hO hp; have h47 : slotOf a 47 = .pointer (some ⟨lb, 19, none⟩) := hp.1; have c0 := keep_cell e4 hG; refine wp_yields (v := vi (stR g days snow soak lv rn days.length).snow) ?_ ⟨_, rfl, rfl, Below.refl _ _, hG⟩; simp [slotOf] at h47; simp [execOp, go_sem, h47, c0]
    ·intro a W hG hR hO hp; have h6 := hO.slot 6 (by kernel_rfl); have h43 : slotOf a 43 = .slice A1 days.length c1 := hp.1; have m0 := keep_cell e1 hG; have m1 := keep_frozen f1 e1 hG; refine wp_skips (W' := W) ?_ ⟨undef, rfl, trivial, Below.refl _ _, hG⟩; simp [slotOf] at h6 h43; simp [execOp, go_sem, h6, h43, m0, m1]; exact setCell_same m0
    ·intro a W hG hR hO hp; have h7 := hO.slot 7 (by kernel_rfl); have h44 : slotOf a 44 = .slice A2 days.length c2 := hp.1; have m0 := keep_cell e2 hG; have m1 := keep_frozen f2 e2 hG; refine wp_skips (W' := W) ?_ ⟨undef, rfl, trivial, Below.refl _ _, hG⟩; simp [slotOf] at h7 h44; simp [execOp, go_sem, h7, h44, m0, m1]; exact setCell_same m0
   ·intro W hG hR
    rintro _ rfl _ rfl _ rfl _ rfl _ rfl _ rfl
    change wpList _ _ _ _ _ _
    simp only [Act.put, List.setIfInBounds_toArray, List.set_cons_zero, List.set_cons_succ, List.drop_succ_cons, List.drop_zero]
    have hj8 := HJ7.out.newer hG
    have hs8 := (Array.getElem?_eq_some_iff.1 hj8.loop).1
    have d1 := hj8.dfr
    have p1 := grown_putL W (w3.heap.size + 1) (.deferred none)
    have b1 : Whole (W.putObj (w3.heap.size + 1) (.deferred none)) (w.heap.size + 1 + 1) 59 #[.slice A1 days.length c1] := hj8.l1.put (by omega) _
    have b2 : Whole (W.putObj (w3.heap.size + 1) (.deferred none)) (w.heap.size + 1 + 1 + 1) 60 #[.slice A2 days.length c2] := hj8.l2.put (by omega) _
    have x1 := b1.at 0 rfl
    have x2 := b2.at 0 rfl
    have HX : Hid (runs w g days snow soak lv rn (.returned (.tuple #[.slice A1 days.length c1, .slice A2 days.length c2, vi (stR g days snow soak lv rn days.length).snow, vi 0])) (W.putObj (w3.heap.size + 1) (.deferred none))) := by
     have t9 := hj8.tab.old p1 (by omega)
     have hk := HCC.out.below.size
     have a1 : Below w.heap.size w W := HCC.out.below.trans (hj8.keep.below hk (fun i hi => by omega))
     exact ⟨⟨_, _, Af, c, rfl, t9.base (by omega)⟩, a1.trans (below_of_grown p1 (by omega) (by omega))⟩
    clear p1 hj8 hs8 hG hR HJ7 HCC b1 b2 e1 e2 e3 e4 f1 f2
    go_wp2_with fail
    refine onlyN_intro ?_
    gi_wp2_with fail
    refine ⟨by simp, .inl ⟨_, _, rfl, run_takeDeferred d1, ?_⟩⟩
    refine ⟨_, ?_, HX.out⟩
    simp [results, Tryz.results16, go_sem, x1, x2]
  ·exact hfalse.elim
end

section
open Go.ChangeShapes Go.WideShapes Go.ChangeAt Go.RowKit Go.Deep

def vGn (g : Gnd) (v : Value) (W : World) : Prop := ∃ A c, v = gndV A c g /\ Row cellL 7 W W.heap.size A g.cells
theorem vGn_st {g : Gnd} : ∀ v W W', vGn g v W -> newer W W' -> vGn g v W' := fun _ _ _ ⟨A, c, h1, h2⟩ hb => ⟨A, c, h1, (h2.below hb).more hb.size⟩
def vDy (l : List Day) (v : Value) (W : World) : Prop := ∃ A c, v = .slice A l.length c /\ Row dayL 3 W W.heap.size A l
theorem vDy_st {l : List Day} : ∀ v W W', vDy l v W -> newer W W' -> vDy l v W' := fun _ _ _ ⟨A, c, h1, h2⟩ hb => ⟨A, c, h1, (h2.below hb).more hb.size⟩
def vT1W (n N : Nat) (f : Nat -> Nat -> Int) (v : Value) (W : World) : Prop := ∃ (Q : Option Addr) (cq : Nat) (A : Nat -> Option Addr) (c : Nat -> Nat) (base : Nat), v = .slice Q N cq /\ W.ownsRow base 60 1 (.slice Q N cq) N ((List.range N).map fun j => .slice (A j) n (c j)) /\ ∀ j, j < N -> Row intL 1 W W.heap.size (A j) ((List.range n).map (f j))
theorem vT1_stW {n N : Nat} {f : Nat -> Nat -> Int} : ∀ v W W', vT1W n N f v W -> newer W W' -> vT1W n N f v W' := fun _ _ _ ⟨Q, cq, A, c, base, h1, h2, h3⟩ hb => ⟨Q, cq, A, c, base, h1, own_below h2 hb, fun j hj => ((h3 j hj).below hb).more hb.size⟩
theorem vT1_atW {n N : Nat} {f : Nat -> Nat -> Int} {Q : Option Addr} {cq : Nat} {W : World} (h : vT1W n N f (.slice Q N cq) W) {k : Nat} (hk : k < N) : ∃ q A c, Q = some ⟨q, 0, none⟩ /\ W.cell? ⟨q, k, none⟩ = some (.slice A n c) /\ Row intL 1 W W.heap.size A ((List.range n).map (f k)) := by
 obtain ⟨Q', cq', A, c, base, e, h2, h3⟩ := h
 injection e with e1 _ e2
 subst e1
 subst e2
 rcases h2.2 with ⟨_, h0⟩ | ⟨q, cap, _, e, _⟩
 ·omega
 ·injection e with e1 _ e2
  subst e1
  subst e2
  refine ⟨q, A k, c k, rfl, ?_, h3 k hk⟩
  rw [h2.cellAt k (by omega)]
  simp [hk]
def vRun (g : Gnd) (days : List Day) (snow soak : Int) (lv rn : List Int) (v : Value) (W : World) : Prop :=
 ∃ v1 v2, v = .tuple #[v1, v2, vi (stR g days snow soak lv rn days.length).snow, vi 0] /\ vT1W g.cells.length days.length (fun j i => (stR g days snow soak lv rn (j + 1)).f i) v1 W /\ vT2 days.length (fun j => (stR g days snow soak lv rn (j + 1)).left) v2 W
def runN (g : Gnd) (days : List Day) (snow soak : Int) (lv rn : List Int) : Int := if faultN g days = 0 then (if fitsB g days snow soak lv rn = true then 0 else 9) else faultN g days
theorem runN_zero {g : Gnd} {days : List Day} {snow soak : Int} {lv rn : List Int} (h : runN g days snow soak lv rn = 0) : faultN g days = 0 /\ fitsB g days snow soak lv rn = true := by
 unfold runN at h
 by_cases hf : faultN g days = 0
 ·rw [if_pos hf] at h
  by_cases h2 : fitsB g days snow soak lv rn = true
  ·exact ⟨hf, h2⟩
  ·rw [if_neg h2] at h; omega
 ·rw [if_neg hf] at h
  exact absurd h hf
theorem run_yes (g : Gnd) (A : Option Addr) (ap : Nat) (days : List Day) (D : Option Addr) (dp : Nat) (snow soak : Int) (lv : List Int) (L : Option Addr) (lp : Nat) (rn : List Int) (R : Option Addr) (rp : Nat) (w : World) (hn : g.cells.length <= 1000) (hm : days.length <= 1000) (hl : lv.length <= 1000) (hr : rn.length <= 1000)
  (hc : Row cellL 7 w w.heap.size A g.cells) (hd : Row dayL 3 w w.heap.size D days) (hL : Row intL 1 w w.heap.size L lv) (hR : Row intL 1 w w.heap.size R rn) (h0 : runN g days snow soak lv rn = 0) :
  Calls Tryz.prog 16 #[gndV A ap g, .slice D days.length dp, truthV snow soak L lv.length lp R rn.length rp] w fun e w' => (∃ v, e = .returned v /\ vRun g days snow soak lv rn v w') /\ Below w.heap.size w w' := by
 obtain ⟨hf, hfit⟩ := runN_zero h0
 refine (run_ok g A ap days D dp snow soak lv L lp rn R rp w hn hm hl hr hc hd hL hR hf hfit).mono ?_
 rintro e w' ⟨⟨v1, v2, Af, c, rfl, ht⟩, h2⟩
 obtain ⟨Q1, c1, rfl⟩ := own_form ht.own1
 obtain ⟨Q2, c2, rfl⟩ := own_form ht.own2
 exact ⟨⟨_, rfl, _, _, rfl, ⟨Q1, c1, Af, c, _, rfl, ht.own1, ht.rows⟩, ⟨Q2, c2, _, rfl, ht.own2⟩⟩, h2⟩
end

section
open Go.ChangeShapes Go.WideShapes Go.ChangeAt Go.RowKit Go.Deep
structure Word where
 n : Int
 lo : 0 <= n
 hi : n <= 65535
abbrev wordL (x : Word) : List Value := [.int .u16 x.n]
theorem Tryz.cells31W : Tryz.prog.cellsOf 31 = 1 := by kernel_rfl
section
variable {H : Type} {enc : TypeId × Value -> H} {w : World} {base : Nat} {spare : Nat -> Bool} {held : Bool} {fuel : Nat} {cs : List Value} {x : DataW H × List MemPlace}
theorem word_cells (h : DataW.trod enc Tryz.prog w base spare held fuel 31 cs = some x) : ∃ y : Word, cs = wordL y := by
 obtain ⟨z, e, _, hw⟩ := DataW.trod_int Tryz.underlying31 h
 have hb : 0 <= z /\ z <= 65535 := by
  simp [Lit.wf] at hw
  exact hw
 exact ⟨⟨z, hb.1, hb.2⟩, e⟩
theorem words_open (h : DataW.trod enc Tryz.prog w base spare held fuel 32 cs = some x) : ∃ (D : Option Addr) (l : List Word) (dp : Nat), cs = [.slice D l.length dp] /\ l.length <= maxLen /\ Row wordL 1 w w.heap.size D l :=
 open_row (ec := wordL) Tryz.underlying32 Tryz.cells31W (fun _ => rfl) (by omega) word_cells h
end
set_option maxRecDepth 100000 in
set_option maxHeartbeats 1000000 in
theorem pick_anyW (lo hi x : Int) (w : World) (h0 : 0 <= lo) (h1 : lo <= hi) (h2 : hi <= 1000000) (hx : 0 <= x) (hx2 : x <= 65535) :
  Calls Tryz.prog 47 #[.agg #[vi lo, vi hi], .int .u16 x] w fun e w' => e = .returned (vi (pickN lo hi x)) /\ Below w.heap.size w w' := by
 have k1 : IntKind.i64.wrap (hi - lo) = hi - lo := IntWalk.i64_in _ (by omega)
 have k2 : IntKind.i64.wrap (hi - lo + 1) = hi - lo + 1 := IntWalk.i64_in _ (by omega)
 have k3 : IntKind.i64.wrap x = x := IntWalk.i64_in _ (by omega)
 have hm1 := Int.emod_nonneg x (show hi - lo + 1 ≠ 0 by omega)
 have hm2 := Int.emod_lt_of_pos x (show 0 < hi - lo + 1 by omega)
 have k5 : IntKind.i64.wrap (lo + x % (hi - lo + 1)) = lo + x % (hi - lo + 1) := IntWalk.i64_in _ (by omega)
 have k4 : x.tmod (hi - lo + 1) = x % (hi - lo + 1) := Int.tmod_eq_emod_of_nonneg hx
 have k6 : ¬ (hi - lo + 1 = 0) := by omega
 have k7 : IntKind.i64.wrap (x % (hi - lo + 1)) = x % (hi - lo + 1) := IntWalk.i64_in _ (by omega)
 unfold pickN
 go_enter Tryz.func47, Tryz.ntmps47
 go_wp2_with fail
 have hB : Below w.heap.size w (w.alloc (.cells #[vi lo, vi hi] 27)) := (Below.refl _ _).alloc (Nat.le_refl _) _
 have HB := Lib.hid hB
 have hm := Whole.made w 27 #[vi lo, vi hi]
 have c0 := hm.at 0 (v := vi lo) rfl
 have c1 := hm.at 1 (v := vi hi) rfl
 clear hB hm
 obtain ⟨wv, hwv⟩ : ∃ wv, wv = w.alloc (.cells #[vi lo, vi hi] 27) := ⟨_, rfl⟩
 rw [<- hwv] at HB c0 c1 ⊢
 clear hwv
 go_quiet (fail)
 go_wp2_with fail
 go_ret
 exact ⟨rfl, below_next HB.out (newer_drewN _ _)⟩
end

section
open Go.RowKit Go.Shelf
theorem Tryz.info31 : (Tryz.prog.info? 31).map (fun i => (i.zero, i.size, i.bytes)) = some (some (.int .u16 0), 1, 2) := by kernel_rfl
theorem make_words (W : World) (n : Nat) (hn : n <= 3000) (z : Int) (hz : z = n) : (Instr.makeSlice 32 (.int .i64 z) (.int .i64 z)).run Tryz.prog W = .ok (.slice (some ⟨W.heap.size, 0, none⟩) n n) (W.alloc (.cells (wArr n (fun _ => 0)) 31)) := by
 subst hz
 obtain ⟨i0, hi0, hz0, hz1, hz2⟩ := info_parts Tryz.info31
 have h := run_make (P := Tryz.prog) W 32 31 i0 _ Tryz.underlying32 hi0 hz0 .i64 .i64 n n (by omega) (by omega) (by rw [hz2]; omega) (by omega)
 rw [hz1] at h
 simp only [Int.toNat_natCast, Value.cells, Nat.mul_one, wArr_made] at h
 exact h
structure PkMidW (w : World) (gcs : Array Value) (N : Nat) (f : Nat -> Int) (tb : Nat) (a b : Int) (lv rn : Value) (W : World) : Prop where
 below : Below w.heap.size w W
 gb : Whole W w.heap.size 29 gcs
 rb : Whole W (w.heap.size + 1) 66 #[vi 0, vi 0, .slice none 0 0, .slice none 0 0]
 nb : Whole W (w.heap.size + 1 + 1) 31 (wArr N f)
 bt : Whole W tb 66 #[vi a, vi b, lv, rn]
 far : w.heap.size + 1 + 1 < tb
section
variable {w : World} {gcs : Array Value} {N : Nat} {f : Nat -> Int} {tb : Nat} {a b : Int} {lv rn : Value} {W W' : World}
theorem PkMidW.newer (h : PkMidW w gcs N f tb a b lv rn W) (hb : newer W W') : PkMidW w gcs N f tb a b lv rn W' :=
 ⟨below_next h.below hb, h.gb.below hb h.gb.lt, h.rb.below hb h.rb.lt, h.nb.below hb h.nb.lt, h.bt.below hb h.bt.lt, h.far⟩
theorem PkMidW.grown (h : PkMidW w gcs N f tb a b lv rn W) {v : Value} {n : Nat} {xs : List Value} (ho : W.ownsRow w.heap.size 3 1 v n xs) (hg : W.grownBy W' v.ownBlock) : PkMidW w gcs N f tb a b lv rn W' :=
 ⟨h.below.grown hg h.below.size (own_ge ho), h.gb.grown hg (own_ne ho h.gb (by decide)).symm, h.rb.grown hg (own_ne ho h.rb (by decide)).symm, h.nb.grown hg (own_ne ho h.nb (by decide)).symm, h.bt.grown hg (own_ne ho h.bt (by decide)).symm, h.far⟩
theorem PkMidW.setL (h : PkMidW w gcs N f tb a b lv rn W) (u : Value) : PkMidW w gcs N f tb a b u rn (W.setCell ⟨tb, 2, none⟩ u) := by
 have := h.far
 exact ⟨h.below.setCell (p := ⟨tb, 2, none⟩) (by dsimp only; omega) _, h.gb.far (by dsimp only; omega) _, h.rb.far (by dsimp only; omega) _, h.nb.far (by dsimp only; omega) _, h.bt.set 2 u, h.far⟩
theorem PkMidW.setR (h : PkMidW w gcs N f tb a b lv rn W) (u : Value) : PkMidW w gcs N f tb a b lv u (W.setCell ⟨tb, 3, none⟩ u) := by
 have := h.far
 exact ⟨h.below.setCell (p := ⟨tb, 3, none⟩) (by dsimp only; omega) _, h.gb.far (by dsimp only; omega) _, h.rb.far (by dsimp only; omega) _, h.nb.far (by dsimp only; omega) _, h.bt.set 3 u, h.far⟩
end
structure PkAW (w : World) (gcs : Array Value) (N : Nat) (f : Nat -> Int) (W : World) : Prop where
 below : Below w.heap.size w W
 gb : Whole W w.heap.size 29 gcs
 rb : Whole W (w.heap.size + 1) 66 #[vi 0, vi 0, .slice none 0 0, .slice none 0 0]
 nb : Whole W (w.heap.size + 1 + 1) 31 (wArr N f)
theorem PkAW.set {w : World} {gcs : Array Value} {N : Nat} {f : Nat -> Int} {W : World} (h : PkAW w gcs N f W) (i : Nat) (x : Int) (f' : Nat -> Int) (he : ∀ j, j < N -> f' j = if j = i then x else f j) : PkAW w gcs N f' (W.setCell ⟨w.heap.size + 1 + 1, i, none⟩ (.int .u16 x)) := by
 refine ⟨h.below.setCell (p := ⟨w.heap.size + 1 + 1, i, none⟩) (by dsimp only; omega) _, h.gb.far (by dsimp only; omega) _, h.rb.far (by dsimp only; omega) _, ?_⟩
 have := h.nb.set i (.int .u16 x)
 rw [wArr_set f f' x he] at this
 exact this
theorem PkAW.newer {w : World} {gcs : Array Value} {N : Nat} {f : Nat -> Int} {W W' : World} (h : PkAW w gcs N f W) (hb : newer W W') : PkAW w gcs N f W' :=
 ⟨below_next h.below hb, h.gb.below hb h.gb.lt, h.rb.below hb h.rb.lt, h.nb.below hb h.nb.lt⟩
def pkL (g : Gnd) (f : Nat -> Int) (j : Nat) : Int := pickN (cAt g.cells j).lo (cAt g.cells j).hi (f (2 + j))
def pkR (g : Gnd) (days : List Day) (f : Nat -> Int) (j : Nat) : Int := pickN (dAtW days j).lo (dAtW days j).hi (f (2 + g.cells.length + j))
theorem picks_fit {g : Gnd} {days : List Day} (f : Nat -> Int) (hf : faultN g days = 0) : fitsB g days (pickN g.slo g.shi (f 0)) (pickN g.klo g.khi (f 1)) ((List.range g.cells.length).map (pkL g f)) ((List.range days.length).map (pkR g days f)) = true := by
 have ok := wayOk_end false hf
 obtain ⟨h1, _, _⟩ := fault_zero hf
 simp only [gndB, Bool.and_eq_true, inB, upB, decide_eq_true_eq] at h1
 obtain ⟨⟨⟨⟨⟨_, _⟩, hs⟩, hk⟩, _⟩, _⟩ := h1
 have a := pickN_in (x := f 0) (show g.slo <= g.shi by omega)
 have b := pickN_in (x := f 1) (show g.klo <= g.khi by omega)
 simp only [fitsB, Bool.and_eq_true, inB, decide_eq_true_eq, List.length_map, List.length_range]
 refine ⟨⟨⟨⟨⟨trivial, trivial⟩, a⟩, b⟩, goodB_true fun j hj => ?_⟩, goodB_true fun j hj => ?_⟩
 ·simp only [lvB, inB, Bool.and_eq_true, decide_eq_true_eq]
  rw [iAt_range _ hj]
  exact pickN_in (ok.cells j hj).lohi
 ·simp only [rnB, inB, Bool.and_eq_true, decide_eq_true_eq]
  rw [iAt_range _ hj]
  exact pickN_in (ok.ds j hj).lohi
def pickedOut (w : World) (g : Gnd) (days : List Day) (e : Ending) (w' : World) : Prop :=
 (∃ snow soak lv rn v, e = .returned v /\ vTr snow soak lv rn v w' /\ fitsB g days snow soak lv rn = true) /\ Below w.heap.size w w'
def pickedOwn (w : World) (g : Gnd) (days : List Day) (e : Ending) (w' : World) : Prop :=
 (∃ snow soak lv rn v, e = .returned v /\ vTrO snow soak lv rn v w' /\ fitsB g days snow soak lv rn = true) /\ Below w.heap.size w w'
set_option maxRecDepth 100000 in
set_option maxHeartbeats 2000000 in
theorem picked_own (g : Gnd) (A : Option Addr) (ap : Nat) (days : List Day) (D : Option Addr) (dp : Nat) (ws : List Word) (V : Option Addr) (vp : Nat) (w : World) (hf : faultN g days = 0) (hl : ws.length <= maxLen) (hc : Row cellL 7 w w.heap.size A g.cells) (hd : Row dayL 3 w w.heap.size D days) (hv : Row wordL 1 w w.heap.size V ws) :
  Calls Tryz.prog 18 #[gndV A ap g, .slice D days.length dp, .slice V ws.length vp] w (pickedOwn w g days) := by
 have hn8 := (fault_cells hf).2
 have hm30 := (fault_zero hf).2.1
 have ok := wayOk_end false hf
 have hgb := (fault_zero hf).1
 simp only [gndB, Bool.and_eq_true, inB, upB, decide_eq_true_eq] at hgb
 obtain ⟨⟨⟨⟨⟨_, _⟩, hs⟩, hk⟩, _⟩, _⟩ := hgb
 have HF := Lib.hid hf
 have HOK := Lib.hid ok
 have HC := Lib.hid hc
 have HD := Lib.hid hd
 have HV := Lib.hid hv
 obtain ⟨i0, hi0, hz0, hz1, hz2⟩ := info_parts Tryz.info3
 have HI := Lib.hid (And.intro hi0 (And.intro hz0 (And.intro hz1 hz2)))
 clear hi0 hz0 hz1 hz2 hf ok hc hd hv
 obtain ⟨N, hN1, hN2⟩ : ∃ N, N <= 2 + g.cells.length + days.length /\ 2 + g.cells.length + days.length <= N := ⟨_, Nat.le_refl _, Nat.le_refl _⟩
 have hw1 : IntKind.i64.wrap (2 + (g.cells.length : Int)) = 2 + (g.cells.length : Int) := IntWalk.i64_in _ (by omega)
 have hw2 : IntKind.i64.wrap (2 + (g.cells.length : Int) + days.length) = 2 + (g.cells.length : Int) + days.length := IntWalk.i64_in _ (by omega)
 have hmk := fun W => make_words W N (by omega) (2 + (g.cells.length : Int) + days.length) (by omega)
 go_enter Tryz.func18, Tryz.ntmps18
 go_upto_block 0 with fail
 have H0 : Hid (PkAW w (gndC A ap g) N (fun _ => 0) (((w.alloc (.cells (gndC A ap g) 29)).alloc (.cells #[vi 0, vi 0, .slice none 0 0, .slice none 0 0] 66)).alloc (.cells (wArr N (fun _ => 0)) 31))) := by
  refine ⟨(((Below.refl _ _).alloc (Nat.le_refl _) _).alloc (by simp) _).alloc (by simp; omega) _, ?_, ?_, ?_⟩
  ·(simp only [Whole, heap_if, World.size_alloc]; (repeat rw [if_neg (by omega)]); rfl)
  ·(simp only [Whole, heap_if, World.size_alloc]; (repeat rw [if_neg (by omega)]); rfl)
  ·(simp only [Whole, heap_if, World.size_alloc]; (repeat rw [if_neg (by omega)]); rfl)
 clear hmk hw2
 go_cut [9] (fun s9 wx => ∃ f : Nat -> Int, (∀ q, 0 <= f q /\ f q <= 65535) /\ PkAW w (gndC A ap g) N f wx)
 case first =>
  go_wp2_with fail
  go_loopw [9] (fun s9 wr => ∃ (i : Nat) (f : Nat -> Int), i <= N /\ s9 = .int .i64 i /\ (∀ q, 0 <= f q /\ f q <= 65535) /\ PkAW w (gndC A ap g) N f wr) (fun s9 _ => N - (intOf s9).toNat)
  case atStart => exact ⟨0, fun _ => 0, Nat.zero_le _, rfl, fun _ => ⟨Int.le_refl _, show (0 : Int) <= 65535 by decide⟩, H0.out⟩
  case round =>
   obtain ⟨i, f, hi, rfl, hfb, hmid⟩ := hrel
   clear H0
   have HFB := Lib.hid hfb
   by_cases hgo : i < N /\ 0 < ws.length
   ·obtain ⟨hlt, hws⟩ := hgo
    have hiN : (i : Int) < N := by omega
    have hws0 : (0 : Int) < ws.length := by omega
    obtain ⟨q, hq⟩ : ∃ q, q = i % ws.length := ⟨_, rfl⟩
    have hql : q < ws.length := by rw [hq]; exact Nat.mod_lt _ hws
    obtain ⟨x, hx⟩ := get_of_lt hql
    obtain ⟨b, off, e, _, hcx⟩ := (HV.out.below hmid.below) (ne_nil_of_get hx)
    have c0 := hcx q x hx 0 _ rfl
    simp only [Nat.mul_one, Nat.add_zero] at c0
    subst e
    have hq1 : (i : Int).tmod ws.length = (q : Int) := by rw [Int.tmod_eq_emod_of_nonneg (by omega), hq]; rfl
    have hq2 : IntKind.i64.wrap (q : Int) = q := IntWalk.i64_in _ (by unfold maxLen at hl; omega)
    have hq3 : (q : Int) < ws.length := by omega
    have hq4 : ¬ ((ws.length : Int) = 0) := by omega
    have fz := hmid.nb.free i
    have cz := hmid.nb.at i (wArr_get f hlt)
    have HM := Lib.hid (hmid.set i x.n (fun j => if j = i then x.n else f j) (fun j _ => rfl))
    have HX := Lib.hid (And.intro x.lo x.hi)
    clear hmid hcx hq
    go_wp2_with fail
    refine ⟨⟨i + 1, _, by omega, by go_num, fun j => ?_, HM.out⟩, by (simp only [intOf]; omega)⟩
    split
    ·exact HX.out
    ·exact HFB.out j
   ·have HM := Lib.hid hmid
    clear hmid hfb
    rcases (show (i < N /\ ws.length = 0) ∨ ¬ i < N by omega) with ⟨h1, h2⟩ | h1
    ·have h1' : (i : Int) < N := by omega
     have h2' : ¬ ((0 : Int) < ws.length) := by omega
     clear h1 h2 hgo
     go_wp2_with fail
     go_meet
     exact ⟨f, HFB.out, HM.out⟩
    ·have h1' : ¬ ((i : Int) < N) := by omega
     clear h1 hgo
     go_wp2_with fail
     go_meet
     exact ⟨f, HFB.out, HM.out⟩
 case rest =>
  obtain ⟨f, hfb, hA⟩ := hcut
  have HFB := Lib.hid hfb
  clear H0 hfb
  go_upto_region 7 with fail
  refine genQ (PkAW w (gndC A ap g) N f) hA ?_
  clear hA
  intro wv hA
  have g1 := hA.gb.at 1 (v := vi g.slo) rfl
  have g2 := hA.gb.at 2 (v := vi g.shi) rfl
  have g3 := hA.gb.at 3 (v := vi g.klo) rfl
  have g4 := hA.gb.at 4 (v := vi g.khi) rfl
  have n0 := hA.nb.at 0 (wArr_get f (by omega))
  have n1 := hA.nb.at 1 (wArr_get f (by omega))
  have hNz : ¬ (N = 0) := by omega
  have hN1i : (1 : Int) < N := by omega
  have hnlt := hA.nb.lt
  have HA := Lib.hid hA
  clear hA
  refine wp_words (by kernel_rfl) (region_told 14 (by kernel_rfl) (by kernel_rfl) (fun W => Below wv.heap.size wv W) newer (pickD [vIs (.pointer (some ⟨w.heap.size, 1, none⟩)), vIs (.agg #[vi g.slo, vi g.shi]), vIs (.slice (some ⟨w.heap.size + 1 + 1, 0, none⟩) N N), vIs (.pointer (some ⟨w.heap.size + 1 + 1, 0, none⟩)), vIs (.int .u16 (f 0)), vIs (vi (pickN (g.slo) (g.shi) (f 0))), vIs (.pointer (some ⟨w.heap.size, 3, none⟩)), vIs (.agg #[vi g.klo, vi g.khi]), vIs (.slice (some ⟨w.heap.size + 1 + 1, 0, none⟩) N N), vIs (.pointer (some ⟨w.heap.size + 1 + 1, 1, none⟩)), vIs (.int .u16 (f 1)), vIs (vi (pickN (g.klo) (g.khi) (f 1))), vIs (.agg #[vi (pickN g.slo g.shi (f 0)), vi (pickN g.klo g.khi (f 1)), .slice none 0 0, .slice none 0 0]), vNew wv.heap.size 66 #[vi 0, vi 0, .slice none 0 0, .slice none 0 0]]) (fun h k => newer_trans h k) (pickD_stable _ ⟨vIs_st, vIs_st, vIs_st, vIs_st, vIs_st, vIs_st, vIs_st, vIs_st, vIs_st, vIs_st, vIs_st, vIs_st, vIs_st, vNew_st, trivial⟩) (Below.refl _ wv).drew (Below.refl _ _) ?_ ?_)
  ·refine ⟨?_, ?_, ?_, ?_, ?_, ?_, ?_, ?_, ?_, ?_, ?_, ?_, ?_, ?_, trivial⟩
   ·intro a W hG hR hO hp; have h3 := hO.slot 3 (by kernel_rfl); refine wp_yields (v := .pointer (some ⟨w.heap.size, 1, none⟩)) ?_ ⟨_, rfl, rfl, Below.refl _ _, hG⟩; simp [slotOf] at h3; simp [execOp, go_sem, h3]
   ·intro a W hG hR hO hp; have h42 : slotOf a 42 = .pointer (some ⟨w.heap.size, 1, none⟩) := hp.1; have c0 := keep_cell g1 hG; have c1 := keep_cell g2 hG; refine wp_yields (v := .agg #[vi g.slo, vi g.shi]) ?_ ⟨_, rfl, rfl, Below.refl _ _, hG⟩; simp [slotOf] at h42; simp [execOp, go_sem, h42, c0, c1]
   ·intro a W hG hR hO hp; have h8 := hO.slot 8 (by kernel_rfl); refine wp_yields (v := .slice (some ⟨w.heap.size + 1 + 1, 0, none⟩) N N) ?_ ⟨_, rfl, rfl, Below.refl _ _, hG⟩; simp [slotOf] at h8; simp [execOp, go_sem, h8]
   ·intro a W hG hR hO hp; have h44 : slotOf a 44 = .slice (some ⟨w.heap.size + 1 + 1, 0, none⟩) N N := hp.1; refine wp_yields (v := .pointer (some ⟨w.heap.size + 1 + 1, 0, none⟩)) ?_ ⟨_, rfl, rfl, Below.refl _ _, hG⟩; simp [slotOf] at h44; simp [execOp, go_sem, h44, hNz]
   ·intro a W hG hR hO hp; have h45 : slotOf a 45 = .pointer (some ⟨w.heap.size + 1 + 1, 0, none⟩) := hp.1; have c0 := keep_cell n0 hG; refine wp_yields (v := .int .u16 (f 0)) ?_ ⟨_, rfl, rfl, Below.refl _ _, hG⟩; simp [slotOf] at h45; simp [execOp, go_sem, h45, c0]
   ·intro a W hG hR hO hp
    have h43 : slotOf a 43 = .agg #[vi g.slo, vi g.shi] := hp.1
    have h46 : slotOf a 46 = .int .u16 (f 0) := hp.2.1
    refine wp_enters (f := 47) (args := #[.agg #[vi (g.slo), vi (g.shi)], .int .u16 (f 0)]) ?_ ((pick_anyW (g.slo) (g.shi) (f 0) W (by omega) (by omega) (by omega) (HFB.out 0).1 (HFB.out 0).2).mono ?_)
    ·simp [slotOf] at h43 h46
     simp [go_sem, h43, h46]
    ·rintro e w' ⟨rfl, hb⟩
     exact ⟨_, rfl, _, rfl, rfl, hb, below_next hG hb⟩
   ·intro a W hG hR hO hp; have h3 := hO.slot 3 (by kernel_rfl); refine wp_yields (v := .pointer (some ⟨w.heap.size, 3, none⟩)) ?_ ⟨_, rfl, rfl, Below.refl _ _, hG⟩; simp [slotOf] at h3; simp [execOp, go_sem, h3]
   ·intro a W hG hR hO hp; have h48 : slotOf a 48 = .pointer (some ⟨w.heap.size, 3, none⟩) := hp.1; have c0 := keep_cell g3 hG; have c1 := keep_cell g4 hG; refine wp_yields (v := .agg #[vi g.klo, vi g.khi]) ?_ ⟨_, rfl, rfl, Below.refl _ _, hG⟩; simp [slotOf] at h48; simp [execOp, go_sem, h48, c0, c1]
   ·intro a W hG hR hO hp; have h8 := hO.slot 8 (by kernel_rfl); refine wp_yields (v := .slice (some ⟨w.heap.size + 1 + 1, 0, none⟩) N N) ?_ ⟨_, rfl, rfl, Below.refl _ _, hG⟩; simp [slotOf] at h8; simp [execOp, go_sem, h8]
   ·intro a W hG hR hO hp; have h50 : slotOf a 50 = .slice (some ⟨w.heap.size + 1 + 1, 0, none⟩) N N := hp.1; refine wp_yields (v := .pointer (some ⟨w.heap.size + 1 + 1, 1, none⟩)) ?_ ⟨_, rfl, rfl, Below.refl _ _, hG⟩; simp [slotOf] at h50; simp [execOp, go_sem, h50, hN1i]
   ·intro a W hG hR hO hp; have h51 : slotOf a 51 = .pointer (some ⟨w.heap.size + 1 + 1, 1, none⟩) := hp.1; have c0 := keep_cell n1 hG; refine wp_yields (v := .int .u16 (f 1)) ?_ ⟨_, rfl, rfl, Below.refl _ _, hG⟩; simp [slotOf] at h51; simp [execOp, go_sem, h51, c0]
   ·intro a W hG hR hO hp
    have h49 : slotOf a 49 = .agg #[vi g.klo, vi g.khi] := hp.1
    have h52 : slotOf a 52 = .int .u16 (f 1) := hp.2.1
    refine wp_enters (f := 47) (args := #[.agg #[vi (g.klo), vi (g.khi)], .int .u16 (f 1)]) ?_ ((pick_anyW (g.klo) (g.khi) (f 1) W (by omega) (by omega) (by omega) (HFB.out 1).1 (HFB.out 1).2).mono ?_)
    ·simp [slotOf] at h49 h52
     simp [go_sem, h49, h52]
    ·rintro e w' ⟨rfl, hb⟩
     exact ⟨_, rfl, _, rfl, rfl, hb, below_next hG hb⟩
   ·intro a W hG hR hO hp; have h47 : slotOf a 47 = vi (pickN (g.slo) (g.shi) (f 0)) := hp.1; have h53 : slotOf a 53 = vi (pickN (g.klo) (g.khi) (f 1)) := hp.2.1; refine wp_yields (v := .agg #[vi (pickN g.slo g.shi (f 0)), vi (pickN g.klo g.khi (f 1)), .slice none 0 0, .slice none 0 0]) ?_ ⟨_, rfl, rfl, Below.refl _ _, hG⟩; simp [slotOf] at h47 h53; simp [execOp, go_sem, h47, h53]
   ·intro a W hG hR hO hp; refine wp_makes (v := .pointer (some ⟨W.heap.size, 0, none⟩)) (W' := W.alloc (.cells #[vi 0, vi 0, .slice none 0 0, .slice none 0 0] 66)) ?_ ⟨_, rfl, ⟨_, rfl, hG.size, Whole.made _ _ _⟩, (Below.refl _ _).alloc (Nat.le_refl _) _, hG.alloc hG.size _⟩; skip; simp [execOp, go_sem]
  ·intro W hG hR
   rintro _ rfl _ rfl _ rfl _ rfl _ rfl _ rfl _ rfl _ rfl _ rfl _ rfl _ rfl _ rfl _ rfl _ ⟨tb, rfl, htb, hW⟩
   change wpList _ _ _ _ _ _
   simp only [Act.put, List.setIfInBounds_toArray, List.set_cons_zero, List.set_cons_succ, List.drop_succ_cons, List.drop_zero]
   have HM : Hid (PkMidW w (gndC A ap g) N f tb (pickN g.slo g.shi (f 0)) (pickN g.klo g.khi (f 1)) (.slice none 0 0) (.slice none 0 0) ((((W.setCell ⟨tb, 0, none⟩ (vi (pickN g.slo g.shi (f 0)))).setCell ⟨tb, 1, none⟩ (vi (pickN g.klo g.khi (f 1)))).setCell ⟨tb, 2, none⟩ (.slice none 0 0)).setCell ⟨tb, 3, none⟩ (.slice none 0 0))) := by
    have ha := HA.out.newer hG
    have hq : w.heap.size + 1 + 1 < tb := by omega
    refine ⟨(((ha.below.setCell (p := ⟨tb, 0, none⟩) (by dsimp only; omega) _).setCell (p := ⟨tb, 1, none⟩) (by dsimp only; omega) _).setCell (p := ⟨tb, 2, none⟩) (by dsimp only; omega) _).setCell (p := ⟨tb, 3, none⟩) (by dsimp only; omega) _, ?_, ?_, ?_, ?_, hq⟩
    ·exact (((ha.gb.far (by dsimp only; omega) _).far (by dsimp only; omega) _).far (by dsimp only; omega) _).far (by dsimp only; omega) _
    ·exact (((ha.rb.far (by dsimp only; omega) _).far (by dsimp only; omega) _).far (by dsimp only; omega) _).far (by dsimp only; omega) _
    ·exact (((ha.nb.far (by dsimp only; omega) _).far (by dsimp only; omega) _).far (by dsimp only; omega) _).far (by dsimp only; omega) _
    ·exact (((hW.set 0 _).set 1 _).set 2 _).set 3 _
   have x0 := hW.at 0 rfl
   have x1 := hW.at 1 rfl
   have x2 := hW.at 2 rfl
   have x3 := hW.at 3 rfl
   have f0 := hW.free 0
   have f1 := hW.free 1
   have f2 := hW.free 2
   have f3 := hW.free 3
   clear hG hR hW htb HA g1 g2 g3 g4 n0 n1 hNz hN1i hnlt
   go_wp2_with fail
   clear x0 x1 x2 x3 f0 f1 f2 f3
   go_loopw [11] (fun s11 wr => ∃ k : Nat, k <= g.cells.length /\ s11 = .int .i64 k /\ ∃ lv, PkMidW w (gndC A ap g) N f tb (pickN g.slo g.shi (f 0)) (pickN g.klo g.khi (f 1)) lv (.slice none 0 0) wr /\ wr.ownsRow w.heap.size 3 1 lv k (((List.range k).map (pkL g f)).flatMap intL)) (fun s11 _ => g.cells.length - (intOf s11).toNat)
   case atStart => exact ⟨0, Nat.zero_le _, rfl, _, HM.out, by simp, .inl ⟨rfl, rfl⟩⟩
   case round =>
    obtain ⟨k, hk, rfl, lv, hmid, hown⟩ := hrel
    clear HM
    by_cases hlt : k < g.cells.length
    ·obtain ⟨c, hck⟩ := get_of_lt hlt
     have hcb := HOK.out.cells k hlt
     rw [cAt_of hck] at hcb
     have hb1 := hcb.lo1
     have hb2 := hcb.lohi
     have hb3 := hcb.hi2
     have hb4 := hcb.cap2
     obtain ⟨b, off, rfl, hb, h0, h1, _, _, _, _, _⟩ := row7 (HC.out.below hmid.below) hck
     have g0 := hmid.gb.at 0 (v := .slice (some ⟨b, off, none⟩) g.cells.length ap) rfl
     obtain ⟨L3, lp3, rfl⟩ := own_form hown
     have e2 := hmid.bt.at 2 rfl
     obtain ⟨j, hj1, hj2⟩ : ∃ j : Nat, j <= 2 + k /\ 2 + k <= j := ⟨_, Nat.le_refl _, Nat.le_refl _⟩
     have HJ := Lib.hid (show j = 2 + k by omega)
     have hwk : IntKind.i64.wrap (2 + (k : Int)) = (j : Int) := by rw [IntWalk.i64_in _ (by omega)]; omega
     have hik : (j : Int) < N := by omega
     have nk := hmid.nb.at j (wArr_get f (by omega))
     have hkn : (k : Int) < g.cells.length := by omega
     have HM := Lib.hid hmid
     have HO := Lib.hid hown
     have HCK := Lib.hid hck
     have hfar := hmid.far
     clear hmid hown hck hcb
     go_wp2_with fail
     refine wp_words (by kernel_rfl) (region_told 16 (by kernel_rfl) (by kernel_rfl) (fun W => Below wr.heap.size wr W) newer (pickD [vIs (.pointer (some ⟨tb, 2, none⟩)), vIs (.slice L3 k lp3), vIs (.pointer (some ⟨w.heap.size, 0, none⟩)), vIs (.slice (some ⟨b, off, none⟩) g.cells.length ap), vIs (.int .i64 k), vIs (.pointer (some ⟨b, off + k * 7, none⟩)), vIs (.pointer (some ⟨b, off + k * 7, none⟩)), vIs (.agg #[vi c.lo, vi c.hi]), vIs (.slice (some ⟨w.heap.size + 1 + 1, 0, none⟩) N N), vIs (.int .i64 2), vIs (.int .i64 k), vIs (.int .i64 j), vIs (.pointer (some ⟨w.heap.size + 1 + 1, j, none⟩)), vIs (.int .u16 (f j)), vIs (vi (pickN (c.lo) (c.hi) (f j))), vOne wr.heap.size 3 #[vi (pickN c.lo c.hi (f j))]]) (fun h k => newer_trans h k) (pickD_stable _ ⟨vIs_st, vIs_st, vIs_st, vIs_st, vIs_st, vIs_st, vIs_st, vIs_st, vIs_st, vIs_st, vIs_st, vIs_st, vIs_st, vIs_st, vIs_st, vOne_st, trivial⟩) (Below.refl _ wr).drew (Below.refl _ _) ?_ ?_)
     ·refine ⟨?_, ?_, ?_, ?_, ?_, ?_, ?_, ?_, ?_, ?_, ?_, ?_, ?_, ?_, ?_, ?_, trivial⟩
      ·intro a W hG hR hO hp; have h10 := hO.slot 10 (by kernel_rfl); refine wp_yields (v := .pointer (some ⟨tb, 2, none⟩)) ?_ ⟨_, rfl, rfl, Below.refl _ _, hG⟩; simp [slotOf] at h10; simp [execOp, go_sem, h10]
      ·intro a W hG hR hO hp; have h62 : slotOf a 62 = .pointer (some ⟨tb, 2, none⟩) := hp.1; have c0 := keep_cell e2 hG; refine wp_yields (v := .slice L3 k lp3) ?_ ⟨_, rfl, rfl, Below.refl _ _, hG⟩; simp [slotOf] at h62; simp [execOp, go_sem, h62, c0]
      ·intro a W hG hR hO hp; have h3 := hO.slot 3 (by kernel_rfl); refine wp_yields (v := .pointer (some ⟨w.heap.size, 0, none⟩)) ?_ ⟨_, rfl, rfl, Below.refl _ _, hG⟩; simp [slotOf] at h3; simp [execOp, go_sem, h3]
      ·intro a W hG hR hO hp; have h64 : slotOf a 64 = .pointer (some ⟨w.heap.size, 0, none⟩) := hp.1; have c0 := keep_cell g0 hG; refine wp_yields (v := .slice (some ⟨b, off, none⟩) g.cells.length ap) ?_ ⟨_, rfl, rfl, Below.refl _ _, hG⟩; simp [slotOf] at h64; simp [execOp, go_sem, h64, c0]
      ·intro a W hG hR hO hp; have h11 := hO.slot 11 (by kernel_rfl); refine wp_yields (v := .int .i64 k) ?_ ⟨_, rfl, rfl, Below.refl _ _, hG⟩; simp [slotOf] at h11; simp [execOp, go_sem, h11]
      ·intro a W hG hR hO hp; have h65 : slotOf a 65 = .slice (some ⟨b, off, none⟩) g.cells.length ap := hp.1; have h66 : slotOf a 66 = .int .i64 k := hp.2.1; refine wp_yields (v := .pointer (some ⟨b, off + k * 7, none⟩)) ?_ ⟨_, rfl, rfl, Below.refl _ _, hG⟩; simp [slotOf] at h65 h66; simp [execOp, go_sem, h65, h66, hkn]
      ·intro a W hG hR hO hp; have h67 : slotOf a 67 = .pointer (some ⟨b, off + k * 7, none⟩) := hp.1; refine wp_yields (v := .pointer (some ⟨b, off + k * 7, none⟩)) ?_ ⟨_, rfl, rfl, Below.refl _ _, hG⟩; simp [slotOf] at h67; simp [execOp, go_sem, h67]
      ·intro a W hG hR hO hp; have h68 : slotOf a 68 = .pointer (some ⟨b, off + k * 7, none⟩) := hp.1; have c0 := keep_cell h0 hG; have c1 := keep_cell h1 hG; refine wp_yields (v := .agg #[vi c.lo, vi c.hi]) ?_ ⟨_, rfl, rfl, Below.refl _ _, hG⟩; simp [slotOf] at h68; simp [execOp, go_sem, h68, c0, c1]
      ·intro a W hG hR hO hp; have h8 := hO.slot 8 (by kernel_rfl); refine wp_yields (v := .slice (some ⟨w.heap.size + 1 + 1, 0, none⟩) N N) ?_ ⟨_, rfl, rfl, Below.refl _ _, hG⟩; simp [slotOf] at h8; simp [execOp, go_sem, h8]
      ·intro a W hG hR hO hp; have h7 := hO.slot 7 (by kernel_rfl); refine wp_yields (v := .int .i64 2) ?_ ⟨_, rfl, rfl, Below.refl _ _, hG⟩; simp [slotOf] at h7; simp [execOp, go_sem, h7]
      ·intro a W hG hR hO hp; have h11 := hO.slot 11 (by kernel_rfl); refine wp_yields (v := .int .i64 k) ?_ ⟨_, rfl, rfl, Below.refl _ _, hG⟩; simp [slotOf] at h11; simp [execOp, go_sem, h11]
      ·intro a W hG hR hO hp; have h71 : slotOf a 71 = .int .i64 2 := hp.1; have h72 : slotOf a 72 = .int .i64 k := hp.2.1; refine wp_yields (v := .int .i64 j) ?_ ⟨_, rfl, rfl, Below.refl _ _, hG⟩; simp [slotOf] at h71 h72; simp [execOp, go_sem, h71, h72, hwk]
      ·intro a W hG hR hO hp; have h70 : slotOf a 70 = .slice (some ⟨w.heap.size + 1 + 1, 0, none⟩) N N := hp.1; have h73 : slotOf a 73 = .int .i64 j := hp.2.1; refine wp_yields (v := .pointer (some ⟨w.heap.size + 1 + 1, j, none⟩)) ?_ ⟨_, rfl, rfl, Below.refl _ _, hG⟩; simp [slotOf] at h70 h73; simp [execOp, go_sem, h70, h73, hik]
      ·intro a W hG hR hO hp; have h74 : slotOf a 74 = .pointer (some ⟨w.heap.size + 1 + 1, j, none⟩) := hp.1; have c0 := keep_cell nk hG; refine wp_yields (v := .int .u16 (f j)) ?_ ⟨_, rfl, rfl, Below.refl _ _, hG⟩; simp [slotOf] at h74; simp [execOp, go_sem, h74, c0]
      ·intro a W hG hR hO hp
       have h69 : slotOf a 69 = .agg #[vi c.lo, vi c.hi] := hp.1
       have h75 : slotOf a 75 = .int .u16 (f j) := hp.2.1
       refine wp_enters (f := 47) (args := #[.agg #[vi (c.lo), vi (c.hi)], .int .u16 (f j)]) ?_ ((pick_anyW (c.lo) (c.hi) (f j) W (by omega) (by omega) (by omega) (HFB.out j).1 (HFB.out j).2).mono ?_)
       ·simp [slotOf] at h69 h75
        simp [go_sem, h69, h75]
       ·rintro e w' ⟨rfl, hb⟩
        exact ⟨_, rfl, _, rfl, rfl, hb, below_next hG hb⟩
      ·intro a W hG hR hO hp; have h76 : slotOf a 76 = vi (pickN (c.lo) (c.hi) (f j)) := hp.1; refine wp_makes (v := .slice (some ⟨W.heap.size, 0, none⟩) 1 1) (W' := W.alloc (.cells #[vi (pickN c.lo c.hi (f j))] 3)) ?_ ⟨_, rfl, ⟨_, rfl, hG.size, Whole.made _ _ _⟩, (Below.refl _ _).alloc (Nat.le_refl _) _, hG.alloc hG.size _⟩; simp [slotOf] at h76; simp [execOp, go_sem, h76]
     ·intro W hG hR
      rintro _ rfl _ rfl _ rfl _ rfl _ rfl _ rfl _ rfl _ rfl _ rfl _ rfl _ rfl _ rfl _ rfl _ rfl _ rfl _ ⟨nb, rfl, hnb, hW⟩
      change wpList _ _ _ _ _ _
      simp only [Act.put, List.setIfInBounds_toArray, List.set_cons_zero, List.set_cons_succ, List.drop_succ_cons, List.drop_zero]
      obtain ⟨hi0, hz0, hz1, hz2⟩ := HI.out
      have hm6 := HM.out.newer hG
      have ho6 := own_below HO.out hG
      refine wpList_append_lies _ rfl (.tmp 63) (.tmp 77) 60 rfl w.heap.size 3 i0 (.int .i64 0) 1 8 Tryz.underlying60 hi0 hz0 hz1 hz2 rfl (by omega) _ k _ rfl ho6 ⟨nb, 0, none⟩ 1 1 [vi (pickN c.lo c.hi (f j))] rfl rfl (World.news_of_block hW) (by simp [Value.oneCell']) (by omega) (by unfold maxLen; omega) (by omega) hm6.below.size W.heap.size rfl ?_
      intro gg cap w1 hown1 hgrow hat hlt1
      rw [snoc_ints (pkL g f) k _ (by unfold pkL; rw [cAt_of HCK.out, <- HJ.out])] at hown1
      have hm7 := hm6.grown ho6 hgrow
      have x2 := hm7.bt.at 2 rfl
      have f2 := hm7.bt.free 2
      have HR := Lib.hid (And.intro (hm7.setL (.slice (some ⟨gg, 0, none⟩) (k + 1) cap)) (own_set (i := 2) hown1 (own_ne hown1 hm7.bt (by decide)) (.slice (some ⟨gg, 0, none⟩) (k + 1) cap)))
      clear hm7 hm6 ho6 hown1 hgrow hat hlt1 hW hG hR hi0 hz0 hz1 hz2 HM HO g0 e2 h0 h1 nk
      go_wp2_with fail
      go_roundw
      case rel => exact ⟨k + 1, by omega, by go_num, _, HR.out.1, HR.out.2⟩
      case measure => simp [intOf]; omega
    ·obtain rfl : k = g.cells.length := by omega
     have g0 := hmid.gb.at 0 (v := .slice A g.cells.length ap) rfl
     have HM := Lib.hid hmid
     have HO := Lib.hid hown
     clear hmid hown
     go_wp2_with fail
     clear g0
     go_loopw [12] (fun s12 wr => ∃ k : Nat, k <= days.length /\ s12 = .int .i64 k /\ ∃ rn, PkMidW w (gndC A ap g) N f tb (pickN g.slo g.shi (f 0)) (pickN g.klo g.khi (f 1)) lv rn wr /\ wr.ownsRow w.heap.size 3 1 lv g.cells.length (((List.range g.cells.length).map (pkL g f)).flatMap intL) /\ wr.ownsRow w.heap.size 3 1 rn k (((List.range k).map (pkR g days f)).flatMap intL) /\ ∀ q, lv.ownBlock = some q -> rn.ownBlock ≠ some q) (fun s12 _ => days.length - (intOf s12).toNat)
     case atStart => exact ⟨0, Nat.zero_le _, rfl, _, HM.out, HO.out, ⟨by simp, .inl ⟨rfl, rfl⟩⟩, fun q _ e => by simp [Value.ownBlock] at e⟩
     case round =>
      obtain ⟨k, hk, rfl, rn, hmid, howl, hown, hap⟩ := hrel
      clear HM HO
      by_cases hlt : k < days.length
      ·obtain ⟨d, hdk⟩ := get_of_lt hlt
       have hdb := HOK.out.ds k hlt
       rw [dAt_of hdk] at hdb
       have hb1 := hdb.lo0
       have hb2 := hdb.lohi
       have hb3 := hdb.hi1
       obtain ⟨b, off, rfl, hb, h0, h1, _⟩ := row3W (HD.out.below hmid.below) hdk
       obtain ⟨L3, lp3, rfl⟩ := own_form hown
       have e2 := hmid.bt.at 3 rfl
       obtain ⟨j, hj1, hj2⟩ : ∃ j : Nat, j <= 2 + g.cells.length + k /\ 2 + g.cells.length + k <= j := ⟨_, Nat.le_refl _, Nat.le_refl _⟩
       have HJ := Lib.hid (show j = 2 + g.cells.length + k by omega)
       have hwk : IntKind.i64.wrap (2 + (g.cells.length : Int) + (k : Int)) = (j : Int) := by rw [IntWalk.i64_in _ (by omega)]; omega
       have hik : (j : Int) < N := by omega
       have nk := hmid.nb.at j (wArr_get f (by omega))
       have hkn : (k : Int) < days.length := by omega
       have HM := Lib.hid hmid
       have HL := Lib.hid howl
       have HO := Lib.hid hown
       have HAP := Lib.hid hap
       have HLT := Lib.hid (own_lt howl)
       have HDK := Lib.hid hdk
       have hfar := hmid.far
       clear hmid howl hown hap hdk hdb
       go_wp2_with fail
       refine wp_words (by kernel_rfl) (region_told 15 (by kernel_rfl) (by kernel_rfl) (fun W => Below wr.heap.size wr W) newer (pickD [vIs (.pointer (some ⟨tb, 3, none⟩)), vIs (.slice L3 k lp3), vIs (.slice (some ⟨b, off, none⟩) days.length dp), vIs (.int .i64 k), vIs (.pointer (some ⟨b, off + k * 3, none⟩)), vIs (.pointer (some ⟨b, off + k * 3, none⟩)), vIs (.agg #[vi d.lo, vi d.hi]), vIs (.slice (some ⟨w.heap.size + 1 + 1, 0, none⟩) N N), vIs (.int .i64 (2 + (g.cells.length : Int))), vIs (.int .i64 k), vIs (.int .i64 j), vIs (.pointer (some ⟨w.heap.size + 1 + 1, j, none⟩)), vIs (.int .u16 (f j)), vIs (vi (pickN (d.lo) (d.hi) (f j))), vOne wr.heap.size 3 #[vi (pickN d.lo d.hi (f j))]]) (fun h k => newer_trans h k) (pickD_stable _ ⟨vIs_st, vIs_st, vIs_st, vIs_st, vIs_st, vIs_st, vIs_st, vIs_st, vIs_st, vIs_st, vIs_st, vIs_st, vIs_st, vIs_st, vOne_st, trivial⟩) (Below.refl _ wr).drew (Below.refl _ _) ?_ ?_)
       ·refine ⟨?_, ?_, ?_, ?_, ?_, ?_, ?_, ?_, ?_, ?_, ?_, ?_, ?_, ?_, ?_, trivial⟩
        ·intro a W hG hR hO hp; have h10 := hO.slot 10 (by kernel_rfl); refine wp_yields (v := .pointer (some ⟨tb, 3, none⟩)) ?_ ⟨_, rfl, rfl, Below.refl _ _, hG⟩; simp [slotOf] at h10; simp [execOp, go_sem, h10]
        ·intro a W hG hR hO hp; have h91 : slotOf a 91 = .pointer (some ⟨tb, 3, none⟩) := hp.1; have c0 := keep_cell e2 hG; refine wp_yields (v := .slice L3 k lp3) ?_ ⟨_, rfl, rfl, Below.refl _ _, hG⟩; simp [slotOf] at h91; simp [execOp, go_sem, h91, c0]
        ·intro a W hG hR hO hp; have h1 := hO.slot 1 (by kernel_rfl); refine wp_yields (v := .slice (some ⟨b, off, none⟩) days.length dp) ?_ ⟨_, rfl, rfl, Below.refl _ _, hG⟩; simp [slotOf] at h1; simp [execOp, go_sem, h1]
        ·intro a W hG hR hO hp; have h12 := hO.slot 12 (by kernel_rfl); refine wp_yields (v := .int .i64 k) ?_ ⟨_, rfl, rfl, Below.refl _ _, hG⟩; simp [slotOf] at h12; simp [execOp, go_sem, h12]
        ·intro a W hG hR hO hp; have h93 : slotOf a 93 = .slice (some ⟨b, off, none⟩) days.length dp := hp.1; have h94 : slotOf a 94 = .int .i64 k := hp.2.1; refine wp_yields (v := .pointer (some ⟨b, off + k * 3, none⟩)) ?_ ⟨_, rfl, rfl, Below.refl _ _, hG⟩; simp [slotOf] at h93 h94; simp [execOp, go_sem, h93, h94, hkn]
        ·intro a W hG hR hO hp; have h95 : slotOf a 95 = .pointer (some ⟨b, off + k * 3, none⟩) := hp.1; refine wp_yields (v := .pointer (some ⟨b, off + k * 3, none⟩)) ?_ ⟨_, rfl, rfl, Below.refl _ _, hG⟩; simp [slotOf] at h95; simp [execOp, go_sem, h95]
        ·intro a W hG hR hO hp; have h96 : slotOf a 96 = .pointer (some ⟨b, off + k * 3, none⟩) := hp.1; have c0 := keep_cell h0 hG; have c1 := keep_cell h1 hG; refine wp_yields (v := .agg #[vi d.lo, vi d.hi]) ?_ ⟨_, rfl, rfl, Below.refl _ _, hG⟩; simp [slotOf] at h96; simp [execOp, go_sem, h96, c0, c1]
        ·intro a W hG hR hO hp; have h8 := hO.slot 8 (by kernel_rfl); refine wp_yields (v := .slice (some ⟨w.heap.size + 1 + 1, 0, none⟩) N N) ?_ ⟨_, rfl, rfl, Below.refl _ _, hG⟩; simp [slotOf] at h8; simp [execOp, go_sem, h8]
        ·intro a W hG hR hO hp; have h7 := hO.slot 7 (by kernel_rfl); refine wp_yields (v := .int .i64 (2 + (g.cells.length : Int))) ?_ ⟨_, rfl, rfl, Below.refl _ _, hG⟩; simp [slotOf] at h7; simp [execOp, go_sem, h7]
        ·intro a W hG hR hO hp; have h12 := hO.slot 12 (by kernel_rfl); refine wp_yields (v := .int .i64 k) ?_ ⟨_, rfl, rfl, Below.refl _ _, hG⟩; simp [slotOf] at h12; simp [execOp, go_sem, h12]
        ·intro a W hG hR hO hp; have h99 : slotOf a 99 = .int .i64 (2 + (g.cells.length : Int)) := hp.1; have h100 : slotOf a 100 = .int .i64 k := hp.2.1; refine wp_yields (v := .int .i64 j) ?_ ⟨_, rfl, rfl, Below.refl _ _, hG⟩; simp [slotOf] at h99 h100; simp [execOp, go_sem, h99, h100, hwk]
        ·intro a W hG hR hO hp; have h98 : slotOf a 98 = .slice (some ⟨w.heap.size + 1 + 1, 0, none⟩) N N := hp.1; have h101 : slotOf a 101 = .int .i64 j := hp.2.1; refine wp_yields (v := .pointer (some ⟨w.heap.size + 1 + 1, j, none⟩)) ?_ ⟨_, rfl, rfl, Below.refl _ _, hG⟩; simp [slotOf] at h98 h101; simp [execOp, go_sem, h98, h101, hik]
        ·intro a W hG hR hO hp; have h102 : slotOf a 102 = .pointer (some ⟨w.heap.size + 1 + 1, j, none⟩) := hp.1; have c0 := keep_cell nk hG; refine wp_yields (v := .int .u16 (f j)) ?_ ⟨_, rfl, rfl, Below.refl _ _, hG⟩; simp [slotOf] at h102; simp [execOp, go_sem, h102, c0]
        ·intro a W hG hR hO hp
         have h97 : slotOf a 97 = .agg #[vi d.lo, vi d.hi] := hp.1
         have h103 : slotOf a 103 = .int .u16 (f j) := hp.2.1
         refine wp_enters (f := 47) (args := #[.agg #[vi (d.lo), vi (d.hi)], .int .u16 (f j)]) ?_ ((pick_anyW (d.lo) (d.hi) (f j) W (by omega) (by omega) (by omega) (HFB.out j).1 (HFB.out j).2).mono ?_)
         ·simp [slotOf] at h97 h103
          simp [go_sem, h97, h103]
         ·rintro e w' ⟨rfl, hb⟩
          exact ⟨_, rfl, _, rfl, rfl, hb, below_next hG hb⟩
        ·intro a W hG hR hO hp; have h104 : slotOf a 104 = vi (pickN (d.lo) (d.hi) (f j)) := hp.1; refine wp_makes (v := .slice (some ⟨W.heap.size, 0, none⟩) 1 1) (W' := W.alloc (.cells #[vi (pickN d.lo d.hi (f j))] 3)) ?_ ⟨_, rfl, ⟨_, rfl, hG.size, Whole.made _ _ _⟩, (Below.refl _ _).alloc (Nat.le_refl _) _, hG.alloc hG.size _⟩; simp [slotOf] at h104; simp [execOp, go_sem, h104]
       ·intro W hG hR
        rintro _ rfl _ rfl _ rfl _ rfl _ rfl _ rfl _ rfl _ rfl _ rfl _ rfl _ rfl _ rfl _ rfl _ rfl _ ⟨nb, rfl, hnb, hW⟩
        change wpList _ _ _ _ _ _
        simp only [Act.put, List.setIfInBounds_toArray, List.set_cons_zero, List.set_cons_succ, List.drop_succ_cons, List.drop_zero]
        obtain ⟨hi0, hz0, hz1, hz2⟩ := HI.out
        have hm6 := HM.out.newer hG
        have ho6 := own_below HO.out hG
        have hl6 := own_below HL.out hG
        have hsz := hG.size
        refine wpList_append_lies _ rfl (.tmp 92) (.tmp 105) 60 rfl w.heap.size 3 i0 (.int .i64 0) 1 8 Tryz.underlying60 hi0 hz0 hz1 hz2 rfl (by omega) _ k _ rfl ho6 ⟨nb, 0, none⟩ 1 1 [vi (pickN d.lo d.hi (f j))] rfl rfl (World.news_of_block hW) (by simp [Value.oneCell']) (by omega) (by unfold maxLen; omega) (by omega) hm6.below.size W.heap.size rfl ?_
        intro gg cap w1 hown1 hgrow hat hlt1
        rw [snoc_ints (pkR g days f) k _ (by unfold pkR; rw [dAt_of HDK.out, <- HJ.out])] at hown1
        have hm7 := hm6.grown ho6 hgrow
        have hl7 := hl6.kept hgrow (apart_row HAP.out)
        have x2 := hm7.bt.at 3 rfl
        have f2 := hm7.bt.free 3
        have HA2 : Hid (∀ q, lv.ownBlock = some q -> (Value.slice (some ⟨gg, 0, none⟩) (k + 1) cap).ownBlock ≠ some q) := by
         refine Lib.hid fun q e e2 => ?_
         have e3 : gg = q := by simpa [Value.ownBlock] using e2
         rcases hat with h | h
         ·exact HAP.out q e ((show (Value.slice L3 k lp3).ownBlock = some gg from h).trans (by rw [e3]))
         ·have := HLT.out q e
          omega
        have HR := Lib.hid (And.intro (hm7.setR (.slice (some ⟨gg, 0, none⟩) (k + 1) cap)) (And.intro (own_set (i := 3) hl7 (own_ne hl7 hm7.bt (by decide)) (.slice (some ⟨gg, 0, none⟩) (k + 1) cap)) (own_set (i := 3) hown1 (own_ne hown1 hm7.bt (by decide)) (.slice (some ⟨gg, 0, none⟩) (k + 1) cap))))
        clear hm7 hm6 ho6 hl6 hl7 hown1 hgrow hat hlt1 hW hG hR hi0 hz0 hz1 hz2 HM HO HL HAP e2 h0 h1 nk
        go_wp2_with fail
        go_roundw
        case rel => exact ⟨k + 1, by omega, by go_num, _, HR.out.1, HR.out.2.1, HR.out.2.2, HA2.out⟩
        case measure => simp [intOf]; omega
      ·obtain rfl : k = days.length := by omega
       obtain ⟨L, lp, rfl⟩ := own_form howl
       obtain ⟨R, rp, rfl⟩ := own_form hown
       have x0 := hmid.bt.at 0 rfl
       have x1 := hmid.bt.at 1 rfl
       have x2 := hmid.bt.at 2 rfl
       have x3 := hmid.bt.at 3 rfl
       have r0 := hmid.rb.at 0 rfl
       have r1 := hmid.rb.at 1 rfl
       have r2 := hmid.rb.at 2 rfl
       have r3 := hmid.rb.at 3 rfl
       have f0 := hmid.rb.free 0
       have f1 := hmid.rb.free 1
       have f2 := hmid.rb.free 2
       have f3 := hmid.rb.free 3
       have hfar := hmid.far
       have HM := Lib.hid hmid
       have HL := Lib.hid howl
       have HO := Lib.hid hown
       clear hmid howl hown hap
       go_wp2_with fail
       have hm := HM.out
       have c := (((hm.rb.set 0 (vi (pickN g.slo g.shi (f 0)))).set 1 (vi (pickN g.klo g.khi (f 1)))).set 2 (.slice L g.cells.length lp)).set 3 (.slice R days.length rp)
       have c0 := c.at 0 rfl
       have c1 := c.at 1 rfl
       have c2 := c.at 2 rfl
       have c3 := c.at 3 rfl
       have hst : ∀ v n xs, wr.ownsRow w.heap.size 3 1 v n xs -> ((((wr.setCell ⟨w.heap.size + 1, 0, none⟩ (vi (pickN g.slo g.shi (f 0)))).setCell ⟨w.heap.size + 1, 1, none⟩ (vi (pickN g.klo g.khi (f 1)))).setCell ⟨w.heap.size + 1, 2, none⟩ (.slice L g.cells.length lp)).setCell ⟨w.heap.size + 1, 3, none⟩ (.slice R days.length rp)).ownsRow w.heap.size 3 1 v n xs := fun v n xs h =>
        have ne := own_ne h hm.rb (by decide)
        own_set (own_set (own_set (own_set h ne _) ne _) ne _) ne _
       have hbl : Below w.heap.size w ((((wr.setCell ⟨w.heap.size + 1, 0, none⟩ (vi (pickN g.slo g.shi (f 0)))).setCell ⟨w.heap.size + 1, 1, none⟩ (vi (pickN g.klo g.khi (f 1)))).setCell ⟨w.heap.size + 1, 2, none⟩ (.slice L g.cells.length lp)).setCell ⟨w.heap.size + 1, 3, none⟩ (.slice R days.length rp)) :=
        (((hm.below.setCell (p := ⟨w.heap.size + 1, 0, none⟩) (by dsimp only; omega) _).setCell (p := ⟨w.heap.size + 1, 1, none⟩) (by dsimp only; omega) _).setCell (p := ⟨w.heap.size + 1, 2, none⟩) (by dsimp only; omega) _).setCell (p := ⟨w.heap.size + 1, 3, none⟩) (by dsimp only; omega) _
       exact bodyPost_ret (v := truthV (pickN g.slo g.shi (f 0)) (pickN g.klo g.khi (f 1)) L g.cells.length lp R days.length rp) (by simp [results, Tryz.results18, go_sem, c0, c1, c2, c3]) rfl ⟨⟨_, _, (List.range g.cells.length).map (pkL g f), (List.range days.length).map (pkR g days f), _, rfl, ⟨w.heap.size, L, lp, R, rp, by simp, by rw [List.length_map, List.length_range]; exact hst _ _ _ HL.out, by rw [List.length_map, List.length_range]; exact hst _ _ _ HO.out⟩, picks_fit f HF.out⟩, hbl⟩
theorem picked_anyW (g : Gnd) (A : Option Addr) (ap : Nat) (days : List Day) (D : Option Addr) (dp : Nat) (ws : List Word) (V : Option Addr) (vp : Nat) (w : World) (hf : faultN g days = 0) (hl : ws.length <= maxLen) (hc : Row cellL 7 w w.heap.size A g.cells) (hd : Row dayL 3 w w.heap.size D days) (hv : Row wordL 1 w w.heap.size V ws) :
  Calls Tryz.prog 18 #[gndV A ap g, .slice D days.length dp, .slice V ws.length vp] w (pickedOut w g days) :=
 (picked_own g A ap days D dp ws V vp w hf hl hc hd hv).mono fun _ _ ⟨⟨a, b, c, d, v, h1, h2, h3⟩, h4⟩ => ⟨⟨a, b, c, d, v, h1, vTrO_tr h2, h3⟩, h4⟩
end

section
open Go.RowKit


theorem runN_ok {g : Gnd} {days : List Day} {snow soak : Int} {lv rn : List Int} (h : faultN g days = 0) (hf : fitsB g days snow soak lv rn = true) : runN g days snow soak lv rn = 0 := by
 unfold runN
 rw [if_pos h, if_pos hf]
end

section
open Go.RowKit
theorem stR_hi {g : Gnd} {days : List Day} {snow soak : Int} {lv rn : List Int} (hf : faultN g days = 0) (hfit : fitsB g days snow soak lv rn = true) {k : Nat} (hk : k <= days.length) :
  (∀ i, i < g.cells.length -> (stR g days snow soak lv rn k).f i <= (stE true g days k).f i) /\ (stR g days snow soak lv rn k).snow <= (stE true g days k).snow := by
 have ok := wayOk_tr hf hfit
 have oke := wayOk_end true hf
 simp only [fitsB, Bool.and_eq_true, inB, decide_eq_true_eq] at hfit
 obtain ⟨⟨⟨⟨⟨f1, f2⟩, f3⟩, f4⟩, f5⟩, f6⟩ := hfit
 refine stAt_mono oke ok (Drier.refl _) f4.2 (fun i hi => ?_) (fun i hi => ?_) f3.2 k hk
 ·have h4 := goodB_at f6 i hi
  simp only [rnB, inB, Bool.and_eq_true, decide_eq_true_eq] at h4
  obtain ⟨c, hc⟩ := get_of_lt hi
  rw [mapAtI _ _ hc]
  rw [dAt_of hc] at h4
  exact h4.2
 ·have h4 := goodB_at f5 i hi
  simp only [lvB, inB, Bool.and_eq_true, decide_eq_true_eq] at h4
  obtain ⟨c, hc⟩ := get_of_lt hi
  simp only [stEnd]
  rw [mapAtI _ _ hc]
  rw [cAt_of hc] at h4
  exact h4.2
end

section
open Go.RowKit
structure WiAW (w : World) (gcs cs : Array Value) (W : World) : Prop where
 b0 : Whole W w.heap.size 29 gcs
 b1 : Whole W (w.heap.size + 1) 29 #[.slice none 0 0, vi 0, vi 0, vi 0, vi 0, vi 0]
 b2 : Whole W (w.heap.size + 1 + 1) 29 cs
 below : Below w.heap.size w W
section
variable {w : World} {gcs cs : Array Value} {W W' : World}
theorem WiAW.newer (h : WiAW w gcs cs W) (hb : newer W W') : WiAW w gcs cs W' := ⟨h.b0.below hb h.b0.lt, h.b1.below hb h.b1.lt, h.b2.below hb h.b2.lt, below_next h.below hb⟩
theorem WiAW.grown (h : WiAW w gcs cs W) {v : Value} {n : Nat} {xs : List Value} (ho : W.ownsRow w.heap.size 115 7 v n xs) (hg : W.grownBy W' v.ownBlock) : WiAW w gcs cs W' :=
 ⟨h.b0.grown hg (own_ne ho h.b0 (by decide)).symm, h.b1.grown hg (own_ne ho h.b1 (by decide)).symm, h.b2.grown hg (own_ne ho h.b2 (by decide)).symm, h.below.grown hg h.below.size (own_ge ho)⟩
theorem WiAW.set (h : WiAW w gcs cs W) (u : Value) : WiAW w gcs (cs.setIfInBounds 0 u) (W.setCell ⟨w.heap.size + 1 + 1, 0, none⟩ u) :=
 ⟨h.b0.far (by dsimp only; omega) _, h.b1.far (by dsimp only; omega) _, h.b2.set 0 u, h.below.setCell (p := ⟨w.heap.size + 1 + 1, 0, none⟩) (by dsimp only; omega) _⟩
end
theorem Tryz.info115 : (Tryz.prog.info? 115).map (fun i => (i.zero, i.size, i.bytes)) = some (some (.agg #[.int .i64 0, .int .i64 0, .int .i64 0, .int .i64 0, .int .i64 0, .int .i64 0, .int .i64 0]), 7, 56) := by kernel_rfl
def vGnO (g : Gnd) (v : Value) (W : World) : Prop := ∃ base A c, v = gndV A c g /\ W.ownsRow base 115 7 (.slice A g.cells.length c) g.cells.length (g.cells.flatMap cellL)
def groundOwn (w : World) (g : Gnd) (e : Ending) (w' : World) : Prop := (∃ v, e = .returned v /\ vGnO g v w') /\ Below w.heap.size w w'
set_option maxRecDepth 100000 in
set_option maxHeartbeats 1000000 in
theorem refWith_own (g : Gnd) (A : Option Addr) (ap : Nat) (cell : Nat) (pump : Int) (w : World) (hn : g.cells.length <= 1000) (hcl : cell < g.cells.length) (hc : Row cellL 7 w w.heap.size A g.cells) :
  Calls Tryz.prog 15 #[gndV A ap g, .int .i64 cell, .int .i64 pump] w (groundOwn w (withPump g cell pump)) := by
 have HC := Lib.hid hc
 obtain ⟨b0, off0, eA, _, _⟩ := hc (by intro e; rw [e] at hcl; simp at hcl)
 subst eA
 clear hc
 obtain ⟨i74, hi0, hz0, hz1, hz2⟩ := info_parts Tryz.info115
 have HI := Lib.hid (And.intro hi0 (And.intro hz0 (And.intro hz1 hz2)))
 clear hi0 hz0 hz1 hz2
 go_enter Tryz.func15, Tryz.ntmps15
 go_upto_region 2 with fail
 have ha : WiAW w (gndC (some ⟨b0, off0, none⟩) ap g) (gndC (some ⟨b0, off0, none⟩) ap g) (((w.alloc (.cells (gndC (some ⟨b0, off0, none⟩) ap g) 29)).alloc (.cells #[.slice none 0 0, vi 0, vi 0, vi 0, vi 0, vi 0] 29)).alloc (.cells (gndC (some ⟨b0, off0, none⟩) ap g) 29)) := by
  refine ⟨?_, ?_, ?_, (((Below.refl _ _).alloc (Nat.le_refl _) _).alloc (by simp) _).alloc (by simp; omega) _⟩
  ·(simp only [Whole, heap_if, World.size_alloc]; (repeat rw [if_neg (by omega)]); rfl)
  ·(simp only [Whole, heap_if, World.size_alloc]; (repeat rw [if_neg (by omega)]); rfl)
  ·(simp only [Whole, heap_if, World.size_alloc]; (repeat rw [if_neg (by omega)]); rfl)
 refine gen_world (WiAW w (gndC (some ⟨b0, off0, none⟩) ap g) (gndC (some ⟨b0, off0, none⟩) ap g)) ha ?_
 clear ha
 intro wv ha
 have x0 := ha.b0.at 0 (v := .slice (some ⟨b0, off0, none⟩) g.cells.length ap) rfl
 have hz := ha.b2.lt
 have hz0 : w.heap.size < wv.heap.size := by omega
 have HA := Lib.hid (ha.newer ((Below.refl _ _).alloc (Nat.le_refl _) (.cells #[] 115)))
 have HO : Hid ((wv.alloc (.cells #[] 115)).ownsRow w.heap.size 115 7 (.slice (some ⟨wv.heap.size, 0, none⟩) 0 0) 0 []) :=
  ⟨by simp, .inr ⟨wv.heap.size, 0, #[], rfl, by omega, by (simp only [heap_if]; rfl), by omega, by unfold maxLen; omega, rfl, rfl⟩⟩
 have HNW := Lib.hid (row_news (enc := cellL) (s := 7) (by omega) (fun _ => rfl) (row_alloc ((HC.out.below ha.below).more ha.below.size) (.cells #[] 115)))
 clear ha
 obtain ⟨hi0, hz1, hz2, hz3⟩ := HI.out
 have hci : (cell : Int) < g.cells.length := by omega
 go_upto_region 3 with (at_builtin; go_loud ((refine wpList_append_lies _ rfl (.tmp 9) (.tmp 11) 25 rfl w.heap.size 115 i74 (.agg #[.int .i64 0, .int .i64 0, .int .i64 0, .int .i64 0, .int .i64 0, .int .i64 0, .int .i64 0]) 7 56 Tryz.underlying25 hi0 hz1 hz2 hz3 rfl (by omega) _ 0 [] rfl HO.out ⟨b0, off0, none⟩ g.cells.length ap (g.cells.flatMap cellL) rfl (flat_len (enc := cellL) (s := 7) (fun _ => rfl) g.cells) HNW.out (flat_oneW _) (by omega) (by unfold maxLen; omega) (by omega) (by simp; omega) (wv.heap.size + 1) (by simp) ?_); intro gg cp w2 hown2 hgrow2 hat2 hlt2; simp only [Nat.zero_add, List.nil_append] at hown2 ⊢; have ha2 := (HA.out).grown HO.out hgrow2; have y0 := ha2.b2.at 0 (v := .slice (some ⟨b0, off0, none⟩) g.cells.length ap) rfl; have yf := ha2.b2.free 0; have HO2 := Lib.hid hown2; have HA2 := Lib.hid ha2; clear ha2 hown2 hgrow2 hat2 hlt2 hi0 hz1 hz2 hz3 HI HNW HO))
 refine gen_world (fun W => WiAW w (gndC (some ⟨b0, off0, none⟩) ap g) #[.slice (some ⟨gg, 0, none⟩) g.cells.length cp, vi g.slo, vi g.shi, vi g.klo, vi g.khi, vi g.melt] W /\ W.ownsRow w.heap.size 115 7 (.slice (some ⟨gg, 0, none⟩) g.cells.length cp) g.cells.length (g.cells.flatMap cellL)) ⟨(HA2.out).set _, own_set HO2.out (own_ne HO2.out (HA2.out).b2 (by decide)) _⟩ ?_
 rintro w3 ⟨ha, ho⟩
 clear HA2 HO2 y0 yf
 have hst := ho.stored (cell * 7 + 6) (vi pump)
 have hcur := ho.cellAt (cell * 7 + 6) (by omega)
 have hfr := ho.frozenAt (cell * 7 + 6)
 obtain ⟨u, hu⟩ := get_of_lt (l := g.cells.flatMap cellL) (k := cell * 7 + 6) (by rw [ho.1]; omega)
 rw [hu] at hcur
 rw [flat7_set _ _ _ hcl] at hst
 have x0 := ha.b2.at 0 (v := .slice (some ⟨gg, 0, none⟩) g.cells.length cp) rfl
 have ha4 : WiAW w (gndC (some ⟨b0, off0, none⟩) ap g) #[.slice (some ⟨gg, 0, none⟩) g.cells.length cp, vi g.slo, vi g.shi, vi g.klo, vi g.khi, vi g.melt] (w3.setCell ⟨gg, cell * 7 + 6, none⟩ (vi pump)) := ha.grown ho hst.2
 have H4 : Hid (WiAW w (gndC (some ⟨b0, off0, none⟩) ap g) #[.slice (some ⟨gg, 0, none⟩) g.cells.length cp, vi g.slo, vi g.shi, vi g.klo, vi g.khi, vi g.melt] (w3.setCell ⟨gg, cell * 7 + 6, none⟩ (vi pump)) /\ (w3.setCell ⟨gg, cell * 7 + 6, none⟩ (vi pump)).ownsRow w.heap.size 115 7 (.slice (some ⟨gg, 0, none⟩) g.cells.length cp) g.cells.length ((withPump g cell pump).cells.flatMap cellL)) := ⟨ha4, hst.1⟩
 clear hst ha ho ha4 hu
 go_upto_region 4 with fail
 refine gen_world (fun W => WiAW w (gndC (some ⟨b0, off0, none⟩) ap g) #[.slice (some ⟨gg, 0, none⟩) g.cells.length cp, vi g.slo, vi g.shi, vi g.klo, vi g.khi, vi g.melt] W /\ W.ownsRow w.heap.size 115 7 (.slice (some ⟨gg, 0, none⟩) g.cells.length cp) g.cells.length ((withPump g cell pump).cells.flatMap cellL)) H4.out ?_
 rintro w4 ⟨hm, ho⟩
 clear H4 x0 hcur hfr
 have c0 := hm.b2.at 0 rfl
 have c1 := hm.b2.at 1 rfl
 have c2 := hm.b2.at 2 rfl
 have c3 := hm.b2.at 3 rfl
 have c4 := hm.b2.at 4 rfl
 have c5 := hm.b2.at 5 rfl
 have r0 := hm.b1.at 0 rfl
 have r1 := hm.b1.at 1 rfl
 have r2 := hm.b1.at 2 rfl
 have r3 := hm.b1.at 3 rfl
 have r4 := hm.b1.at 4 rfl
 have r5 := hm.b1.at 5 rfl
 have f0 := hm.b1.free 0
 have f1 := hm.b1.free 1
 have f2 := hm.b1.free 2
 have f3 := hm.b1.free 3
 have f4 := hm.b1.free 4
 have f5 := hm.b1.free 5
 have HM := Lib.hid hm
 have HO := Lib.hid ho
 clear hm ho
 go_wp2_with fail
 have hm := HM.out
 have c := (((((hm.b1.set 0 (.slice (some ⟨gg, 0, none⟩) g.cells.length cp)).set 1 (vi g.slo)).set 2 (vi g.shi)).set 3 (vi g.klo)).set 4 (vi g.khi)).set 5 (vi g.melt)
 have k0 := c.at 0 rfl
 have k1 := c.at 1 rfl
 have k2 := c.at 2 rfl
 have k3 := c.at 3 rfl
 have k4 := c.at 4 rfl
 have k5 := c.at 5 rfl
 have ne := own_ne HO.out hm.b1 (by decide)
 have s : ∀ {X : World} {u : Value} {i : Nat}, Below w.heap.size w X -> Below w.heap.size w (X.setCell ⟨w.heap.size + 1, i, none⟩ u) := fun h => h.setCell (p := ⟨w.heap.size + 1, _, none⟩) (by dsimp only; omega) _
 have q : ∀ {X : World} {u : Value} {i : Nat}, X.ownsRow w.heap.size 115 7 (.slice (some ⟨gg, 0, none⟩) g.cells.length cp) g.cells.length ((withPump g cell pump).cells.flatMap cellL) -> (X.setCell ⟨w.heap.size + 1, i, none⟩ u).ownsRow w.heap.size 115 7 (.slice (some ⟨gg, 0, none⟩) g.cells.length cp) g.cells.length ((withPump g cell pump).cells.flatMap cellL) := fun h => own_set h ne _
 have hgv : gndV (some ⟨gg, 0, none⟩) cp (withPump g cell pump) = .agg #[.slice (some ⟨gg, 0, none⟩) g.cells.length cp, vi g.slo, vi g.shi, vi g.klo, vi g.khi, vi g.melt] := by
  unfold gndV
  rw [withPump_len]
  rfl
 exact bodyPost_ret (v := .agg #[.slice (some ⟨gg, 0, none⟩) g.cells.length cp, vi g.slo, vi g.shi, vi g.klo, vi g.khi, vi g.melt]) (by simp [results, Tryz.results15, go_sem, k0, k1, k2, k3, k4, k5]) rfl ⟨⟨_, by rw [hgv], w.heap.size, some ⟨gg, 0, none⟩, cp, rfl, by rw [withPump_len]; exact q (q (q (q (q (q HO.out)))))⟩, s (s (s (s (s (s hm.below)))))⟩
theorem refWith (g : Gnd) (A : Option Addr) (ap : Nat) (cell : Nat) (pump : Int) (w : World) (hn : g.cells.length <= 1000) (hcl : cell < g.cells.length) (hc : Row cellL 7 w w.heap.size A g.cells) :
  Calls Tryz.prog 15 #[gndV A ap g, .int .i64 cell, .int .i64 pump] w (groundOut w (withPump g cell pump)) :=
 (refWith_own g A ap cell pump w hn hcl hc).mono fun _ _ ⟨⟨_, h1, _, A, c, h2, h3⟩, h4⟩ => ⟨A, c, by rw [h1, h2], row_of_own (by omega) (fun _ => rfl) h3, h4⟩
end

section
open Go.RowKit
theorem keeps_yes {g : Gnd} {days : List Day} {cell : Nat} {level pump : Int} (h : keepsB g days cell level pump = true) : ∀ k, k < days.length -> (stE true (withPump g cell pump) days (k + 1)).f cell <= level := by
 unfold keepsB at h
 rw [firstD_none] at h
 intro k hk
 have := h k hk
 simp only [decide_eq_false_iff_not] at this
 omega
theorem keeps_less {g : Gnd} {days : List Day} (hf : faultN g days = 0) {cell : Nat} (hc : cell < g.cells.length) {level p q : Int} (h0 : 0 <= p) (h : p <= q) (h1 : q <= 100000) (hq : keepsB g days cell level q = false) : keepsB g days cell level p = false := by
 cases hp : keepsB g days cell level p with
 | false => rfl
 | true =>
  have := keepsB_mono hf hc level h0 h h1 hp
  rw [hq] at this
  cases this
theorem least_says {g : Gnd} {days : List Day} (hf : faultN g days = 0) {cell : Nat} (hc : cell < g.cells.length) {level n : Int} (h : Halved (keepsB g days cell level) 0 100000 n (n - 1)) :
  0 <= n /\ (n <= 100000 -> keepsB g days cell level n = true) /\ (n <= 100000 -> n ≠ 0 -> keepsB g days cell level (n - 1) = false) /\ (100000 < n -> keepsB g days cell level 100000 = false) := by
 obtain ⟨a, b, c, d, e⟩ := halved_ok (fun _ _ a b c d => keepsB_mono hf hc level a b c d) h
 refine ⟨a, d, fun _ hn => ?_, fun hn => ?_⟩
 ·rcases e with e | e
  ·exact absurd e hn
  ·exact e
 ·cases hp : keepsB g days cell level 100000 with
  | false => rfl
  | true => have := c.2 hp; omega
theorem asked_ok {g : Gnd} {days : List Day} (hf : faultN g days = 0) {cell : Nat} (hc : cell < g.cells.length) {level : Int} (h0 : 0 <= level) (h1 : level <= 100000) : askedNW g days cell level = 0 := by
 unfold askedNW
 rw [if_pos hf, if_pos (by simp only [inB, Bool.and_eq_true, decide_eq_true_eq]; omega), if_pos (by simp only [inB, Bool.and_eq_true, decide_eq_true_eq]; omega)]
theorem least_yes (g : Gnd) (A : Option Addr) (ap : Nat) (days : List Day) (D : Option Addr) (dp : Nat) (cell : Nat) (level : Int) (w : World) (hn : g.cells.length <= 1000) (hm : days.length <= 1000) (hc : Row cellL 7 w w.heap.size A g.cells) (hd : Row dayL 3 w w.heap.size D days) (hf : askedNW g days cell level = 0) :
  Calls Tryz.prog 12 #[gndV A ap g, .slice D days.length dp, .int .i64 cell, .int .i64 level] w fun e w' => (∃ n : Int, Halved (keepsB g days cell level) 0 100000 n (n - 1) /\ e = .returned (.tuple (if 100000 < n then #[.int .i64 0, .int .i64 9] else #[.int .i64 n, .int .i64 0]))) /\ Below w.heap.size w w' :=
 (least_ok g A ap days D dp cell level w hn hm hc hd hf).mono fun _ _ ⟨n, h1, h2, h3⟩ => ⟨⟨n, h1, h2⟩, h3⟩
end

end Go.Proofs.YtcdhhfgpdokkoaaGreat
