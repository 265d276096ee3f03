/- What the last text of this chain needs: WtS, WtT, WtU, WtY, WtV, WtW, WtAD, WtAF, WtAG, WtAQ, WtAP, WtAR. -/
import Derived.Test.YtcdhhfgpdokkoaaGreatZH07
namespace Go.Proofs.YtcdhhfgpdokkoaaGreat
section
open Go.RowKit
def askedNW (g : Gnd) (days : List Day) (cell level : Int) : Int :=
 if faultN g days = 0 then (if inB cell 0 ((g.cells.length : Int) - 1) = true then (if inB level 0 100000 = true then 0 else 2) else 2) else faultN g days
set_option maxRecDepth 100000 in
set_option maxHeartbeats 1000000 in
theorem asked_anyW (g : Gnd) (A : Option Addr) (ap : Nat) (days : List Day) (D : Option Addr) (dp : Nat) (cell level : Int) (w : World) (hn : g.cells.length <= 1000) (hm : days.length <= 1000) (hc : Row cellL 7 w w.heap.size A g.cells) (hd : Row dayL 3 w w.heap.size D days) :
  Calls Tryz.prog 34 #[gndV A ap g, .slice D days.length dp, .int .i64 cell, .int .i64 level] w fun e w' => e = .returned (.int .i64 (askedNW g days cell level)) /\ Below w.heap.size w w' := by
 have hck := check_anyW g ap A days dp D _ hn hm (row_alloc hc (.cells (gndC A ap g) 54)) (row_alloc hd _)
 have HK := Lib.hid hck
 clear hck hc hd
 unfold askedNW
 by_cases hf : faultN g days = 0
 ·rw [if_pos hf]
  rw [hf] at HK
  clear hf
  cases h1 : inB cell 0 ((g.cells.length : Int) - 1)
  case' true => cases h2 : inB level 0 100000
  all_goals
   (go_enter Tryz.func34, Tryz.ntmps34
    go_wp2_with (first | (go_at_call 42; refine (HK.out).mono ?_; rintro e w1 ⟨rfl, hb⟩; have hB := below_step ((Below.refl w.heap.size w).alloc (Nat.le_refl _) _) hb (by simp); have hg := ((Whole.made w 54 (gndC A ap g)).below hb (by simp)); have x1 := hg.at 0 (v := .slice A g.cells.length ap) rfl) | (go_at_call 60; refine (within_anyW _ _ _ _).mono ?_; rintro e w' ⟨rfl, rfl⟩))
    go_ret
    exact ⟨by simp, hB⟩)
 ·rw [if_neg hf]
  have hfb : (faultN g days != 0) = true := by simpa using hf
  clear hf
  go_enter Tryz.func34, Tryz.ntmps34
  go_wp2_with (go_at_call 42; refine (HK.out).mono ?_; rintro e w1 ⟨rfl, hb⟩; have hB := below_step ((Below.refl w.heap.size w).alloc (Nat.le_refl _) _) hb (by simp))
  go_ret
  exact ⟨rfl, hB⟩
set_option maxRecDepth 100000 in
set_option maxHeartbeats 1000000 in
theorem lowest60 (p : Int -> Bool) (a b : Int) (x1 x2 x3 x4 x5 : Value) (I : World -> Prop) (w : World) (ha : 0 <= a) (hab : a <= b + 1) (hb : b <= 1000000) (h0 : I w)
  (hp : ∀ n W, a <= n -> n <= b -> I W -> Calls Tryz.prog 35 #[.int .i64 n, x1, x2, x3, x4, x5] W fun e W' => e = .returned (.bool (p n)) /\ I W') :
  Calls Tryz.prog 40 #[.int .i64 a, .int .i64 b, .func (.func 35) #[] #[x1, x2, x3, x4, x5]] w (lowestOut p a b I) := by
 have HP := Lib.hid hp
 clear hp
 go_enter Tryz.func40, Tryz.ntmps40
 go_wp2
 go_loopw [0, 1, 7] (fun l h _ wr => ∃ low high : Int, l = .int .i64 low /\ h = .int .i64 high /\ Halved p a b low high /\ I wr) (fun l h _ _ => (intOf h + 1 - intOf l).toNat)
 case atStart => exact ⟨a, b, rfl, rfl, ⟨Int.le_refl _, hab, Int.le_refl _, .inl rfl, .inl rfl⟩, h0⟩
 case round =>
  obtain ⟨low, high, rfl, rfl, hh, hI⟩ := hrel
  have l1 := hh.le1
  have l2 := hh.le2
  have l3 := hh.le3
  have HH := Lib.hid hh
  clear hh
  by_cases hlt : low <= high
  ·have m1 : low <= (low + high) / 2 := by omega
   have m2 : (low + high) / 2 <= high := by omega
   have HC := Lib.hid (HP.out ((low + high) / 2) wr (by omega) (by omega) hI)
   cases hpm : p ((low + high) / 2)
   ·rw [hpm] at HC
    go_wp2_with (go_at_call 35; refine (HC.out).mono ?_; rintro e w1 ⟨rfl, hI1⟩)
    go_roundw
    case rel => exact ⟨(low + high) / 2 + 1, high, rfl, rfl, ⟨by omega, by omega, l3, .inr (by rw [show (low + high) / 2 + 1 - 1 = (low + high) / 2 by omega]; exact hpm), HH.out.upper⟩, hI1⟩
    case measure => simp [intOf]; omega
   ·rw [hpm] at HC
    go_wp2_with (go_at_call 35; refine (HC.out).mono ?_; rintro e w1 ⟨rfl, hI1⟩)
    go_roundw
    case rel => exact ⟨low, (low + high) / 2 - 1, rfl, rfl, ⟨l1, by omega, by omega, HH.out.lower, .inr (by rw [show (low + high) / 2 - 1 + 1 = (low + high) / 2 by omega]; exact hpm)⟩, hI1⟩
    case measure => simp [intOf]; omega
  ·have e : high = low - 1 := by omega
   subst e
   go_wp2_with fail
   go_ret
   exact ⟨_, rfl, HH.out, hI⟩
end

section
open Go.RowKit
def withPump (g : Gnd) (cell : Nat) (pump : Int) : Gnd := { g with cells := g.cells.set cell { cAt g.cells cell with pump := pump } }
theorem withPump_len (g : Gnd) (cell : Nat) (pump : Int) : (withPump g cell pump).cells.length = g.cells.length := by simp [withPump]
theorem withPump_twice (g : Gnd) (cell : Nat) (p q : Int) : withPump (withPump g cell p) cell q = withPump g cell q := by
 unfold withPump
 simp only [List.set_set, Gnd.mk.injEq, and_true]
 rcases Nat.lt_or_ge cell g.cells.length with h | h
 ·congr 1
  simp [cAt, h]
 ·rw [List.set_eq_of_length_le h, List.set_eq_of_length_le h]
theorem flat7_set (l : List Cell) : ∀ (k : Nat) (x : Int), k < l.length -> (l.flatMap cellL).set (k * 7 + 6) (vi x) = (l.set k { cAt l k with pump := x }).flatMap cellL := by
 induction l with
 | nil => intro k x h; simp at h
 | cons c l ih =>
  intro k x h
  cases k with
  | zero => rfl
  | succ k =>
   have h' : k < l.length := by simpa using h
   have := ih k x h'
   simp only [List.flatMap_cons, List.set_cons_succ]
   rw [List.set_append_right _ _ (by simp; omega)]
   simp only [List.length_cons, List.length_nil]
   rw [show (k + 1) * 7 + 6 - (0 + 1 + 1 + 1 + 1 + 1 + 1 + 1) = k * 7 + 6 by omega, this]
   rfl
structure LsAt (w : World) (g : Gnd) (cell : Nat) (level : Int) (days : List Day) (D : Option Addr) (dp : Nat) (bc bl bg bd bv cb cap : Nat) (gcs : Array Value) (pump : Int) (W : World) : Prop where
 cv : Whole W bc 51 #[.slice (some ⟨cb, 0, none⟩) g.cells.length cap]
 cl : Whole W bl 3 #[.int .i64 cell]
 gb : Whole W bg 54 gcs
 dv : Whole W bd 56 #[.slice D days.length dp]
 lv : Whole W bv 3 #[.int .i64 level]
 own : W.ownsRow w.heap.size 86 7 (.slice (some ⟨cb, 0, none⟩) g.cells.length cap) g.cells.length ((withPump g cell pump).cells.flatMap cellL)
 below : Below w.heap.size w W
def keepsB (g : Gnd) (days : List Day) (cell : Nat) (level pump : Int) : Bool := firstD days.length (fun k => decide (level + 1 <= (stE true (withPump g cell pump) days (k + 1)).f cell)) == -1
theorem LsAt.newer {w : World} {g : Gnd} {cell : Nat} {level : Int} {days : List Day} {D : Option Addr} {dp bc bl bg bd bv cb cap : Nat} {gcs : Array Value} {pump : Int} {W W' : World} (h : LsAt w g cell level days D dp bc bl bg bd bv cb cap gcs pump W) (hb : newer W W') : LsAt w g cell level days D dp bc bl bg bd bv cb cap gcs pump W' :=
 ⟨h.cv.below hb h.cv.lt, h.cl.below hb h.cl.lt, h.gb.below hb h.gb.lt, h.dv.below hb h.dv.lt, h.lv.below hb h.lv.lt, own_below h.own hb, below_next h.below hb⟩
theorem LsAt.kept {w : World} {g : Gnd} {cell : Nat} {level : Int} {days : List Day} {D : Option Addr} {dp bc bl bg bd bv cb cap : Nat} {gcs : Array Value} {pump : Int} {W W' W'' : World} (h : LsAt w g cell level days D dp bc bl bg bd bv cb cap gcs pump W) (hb : Below W.heap.size W W') {b : Nat} (hb' : W.heap.size <= b) (hg : W'.grownBy W'' (some b)) : LsAt w g cell level days D dp bc bl bg bd bv cb cap gcs pump W'' := by
 have hbb : Below W.heap.size W W'' := hb.trans (below_of_grown hg hb' hb.size)
 exact h.newer hbb
set_option maxRecDepth 100000 in
set_option maxHeartbeats 2000000 in
theorem keeps_any (w : World) (g : Gnd) (cell : Nat) (level : Int) (days : List Day) (D : Option Addr) (dp bc bl bg bd bv cb cap : Nat) (A0 : Option Addr) (ap : Nat) (pm pump : Int) (W0 : World) (hcell : cell < g.cells.length) (hv0 : 0 <= level) (hv1 : level <= 100000) (hd : Row dayL 3 w w.heap.size D days)
  (hf : faultN (withPump g cell pump) days = 0) (h : LsAt w g cell level days D dp bc bl bg bd bv cb cap (gndC A0 ap g) pm W0) :
  Calls Tryz.prog 35 #[.int .i64 pump, .pointer (some ⟨bc, 0, none⟩), .pointer (some ⟨bl, 0, none⟩), .pointer (some ⟨bg, 0, none⟩), .pointer (some ⟨bd, 0, none⟩), .pointer (some ⟨bv, 0, none⟩)] W0 fun e W' =>
   e = .returned (.bool (keepsB g days cell level pump)) /\ LsAt w g cell level days D dp bc bl bg bd bv cb cap (gndC A0 ap g) pump W' := by
 have hok := wayOk_end true hf
 have hn8 : (withPump g cell pump).cells.length <= 8 := hok.few
 have hn7 : (withPump g cell pump).cells.length <= 1000 := by omega
 have hmm := hok.many
 have hl := withPump_len g cell pump
 have hlp := withPump_len g cell pm
 -- the store of the pump
 have hst := h.own.stored (cell * 7 + 6) (vi pump)
 have hcur := h.own.cellAt (cell * 7 + 6) (by omega)
 have hfr := h.own.frozenAt (cell * 7 + 6)
 obtain ⟨u, hu⟩ : ∃ u, ((withPump g cell pm).cells.flatMap cellL)[cell * 7 + 6]? = some u := by
  have : cell * 7 + 6 < ((withPump g cell pm).cells.flatMap cellL).length := by rw [h.own.1]; omega
  exact ⟨_, List.getElem?_eq_getElem this⟩
 rw [hu] at hcur
 have hset : ((withPump g cell pm).cells.flatMap cellL).set (cell * 7 + 6) (vi pump) = (withPump g cell pump).cells.flatMap cellL := by
  rw [flat7_set _ _ _ (by omega)]
  have := withPump_twice g cell pm pump
  rw [<- this]
  rfl
 rw [hset] at hst
 have c1 := h.cv.at 0 rfl
 have c2 := h.cl.at 0 rfl
 have g1 := h.gb.at 1 rfl
 have g2 := h.gb.at 2 rfl
 have g3 := h.gb.at 3 rfl
 have g4 := h.gb.at 4 rfl
 have g5 := h.gb.at 5 rfl
 have hne1 := h.own
 have nc := own_ne h.own h.cv (by decide)
 have nl := own_ne h.own h.cl (by decide)
 have ng := own_ne h.own h.gb (by decide)
 have nd := own_ne h.own h.dv (by decide)
 have nv := own_ne h.own h.lv (by decide)
 have hA : LsAt w g cell level days D dp bc bl bg bd bv cb cap (gndC A0 ap g) pump (W0.setCell ⟨cb, cell * 7 + 6, none⟩ (vi pump)) :=
  ⟨h.cv.grown hst.2 (fun e => nc e.symm), h.cl.grown hst.2 (fun e => nl e.symm), h.gb.grown hst.2 (fun e => ng e.symm), h.dv.grown hst.2 (fun e => nd e.symm), h.lv.grown hst.2 (fun e => nv e.symm), hst.1, h.below.setCell (p := ⟨cb, cell * 7 + 6, none⟩) (own_ge h.own cb rfl) _⟩
 have x1 := hA.cv.at 0 rfl
 have x2 := hA.gb.at 1 rfl
 have x3 := hA.gb.at 2 rfl
 have x4 := hA.gb.at 3 rfl
 have x5 := hA.gb.at 4 rfl
 have x6 := hA.gb.at 5 rfl
 have hci : (cell : Int) < (g.cells.length : Int) := by omega
 have HA := Lib.hid hA
 have HD0 := Lib.hid hd
 have HF := Lib.hid hok
 have HL := Lib.hid hl
 clear hst hset hA hd h hok hf hne1 nc nl ng nd nv hu hl hlp
 go_enter Tryz.func35, Tryz.ntmps35
 go_wp2
 have hxs : (W0.setCell ⟨cb, cell * 7 + 6, none⟩ (vi pump)).heap.size = W0.heap.size := by simp [World.setCell]
 have HG : Hid (LsAt w g cell level days D dp bc bl bg bd bv cb cap (gndC A0 ap g) pump ((W0.setCell ⟨cb, cell * 7 + 6, none⟩ (vi pump)).alloc (.cells #[.slice (some ⟨cb, 0, none⟩) g.cells.length cap, vi g.slo, vi g.shi, vi g.klo, vi g.khi, vi g.melt] 54)) /\
   Whole ((W0.setCell ⟨cb, cell * 7 + 6, none⟩ (vi pump)).alloc (.cells #[.slice (some ⟨cb, 0, none⟩) g.cells.length cap, vi g.slo, vi g.shi, vi g.klo, vi g.khi, vi g.melt] 54)) W0.heap.size 54 #[.slice (some ⟨cb, 0, none⟩) g.cells.length cap, vi g.slo, vi g.shi, vi g.klo, vi g.khi, vi g.melt]) :=
  ⟨(HA.out).newer ((Below.refl _ _).alloc (Nat.le_refl _) _), hxs ▸ Whole.made _ _ _⟩
 refine gen_world (fun W => LsAt w g cell level days D dp bc bl bg bd bv cb cap (gndC A0 ap g) pump W /\ Whole W W0.heap.size 54 #[.slice (some ⟨cb, 0, none⟩) g.cells.length cap, vi g.slo, vi g.shi, vi g.klo, vi g.khi, vi g.melt]) HG.out ?_
 clear HG hxs HA x1 x2 x3 x4 x5 x6 c1 c2 g1 g2 g3 g4 g5 hcur hfr
 rintro wv ⟨hls, hxb⟩
 have e0 : wv.cell? ⟨W0.heap.size, 0, none⟩ = some (.slice (some ⟨cb, 0, none⟩) (withPump g cell pump).cells.length cap) := by rw [HL.out]; exact hxb.at 0 rfl
 have e1 := hxb.at 1 (v := vi (withPump g cell pump).slo) rfl
 have e2 := hxb.at 2 (v := vi (withPump g cell pump).shi) rfl
 have e3 := hxb.at 3 (v := vi (withPump g cell pump).klo) rfl
 have e4 := hxb.at 4 (v := vi (withPump g cell pump).khi) rfl
 have e5 := hxb.at 5 (v := vi (withPump g cell pump).melt) rfl
 have d0 := hls.dv.at 0 rfl
 have c0 := hls.cl.at 0 rfl
 have l0 := hls.lv.at 0 rfl
 have hlv : IntKind.i64.wrap (level + 1) = level + 1 := IntWalk.i64_in _ (by omega)
 have HC : Hid (Row cellL 7 wv wv.heap.size (some ⟨cb, 0, none⟩) (withPump g cell pump).cells) := row_of_own (by omega) (fun _ => rfl) hls.own
 have HD : Hid (Row dayL 3 wv wv.heap.size D days) := ((HD0.out).below hls.below).more hls.below.size
 have HS := Lib.hid hls
 clear hls hxb HD0
 refine wp_words (by kernel_rfl) (region_told 10 (by kernel_rfl) (by kernel_rfl) (fun W => Below wv.heap.size wv W) newer (pickD [vIs (gndV (some ⟨cb, 0, none⟩) cap (withPump g cell pump)), vIs (.slice D days.length dp), vIs (choiceVW true), vIs (gndV (some ⟨cb, 0, none⟩) cap (withPump g cell pump)), vIs (.slice D days.length dp), vTruth wv.heap.size true (withPump g cell pump) days, vWay wv.heap.size (withPump g cell pump) (some ⟨cb, 0, none⟩) cap days D dp true, vIs (.int .i64 cell), vIs (.int .i64 level), vIs (.int .i64 (level + 1))]) (fun h k => newer_trans h k) (pickD_stable _ ⟨vIs_st, vIs_st, vIs_st, vIs_st, vIs_st, vTruth_st, vWay_st, vIs_st, vIs_st, vIs_st, trivial⟩) (Below.refl _ wv).drew (Below.refl _ _) ?_ ?_)
 ·refine ⟨?_, ?_, ?_, ?_, ?_, ?_, ?_, ?_, ?_, ?_, trivial⟩
  ·intro a W hG hR hO hp; have h8 := hO.slot 8 (by kernel_rfl); have c0 := keep_cell e0 hG; have c1 := keep_cell e1 hG; have c2 := keep_cell e2 hG; have c3 := keep_cell e3 hG; have c4 := keep_cell e4 hG; have c5 := keep_cell e5 hG; refine wp_yields (v := gndV (some ⟨cb, 0, none⟩) cap (withPump g cell pump)) ?_ ⟨_, rfl, rfl, Below.refl _ _, hG⟩; simp [slotOf] at h8; simp [execOp, go_sem, h8, c0, c1, c2, c3, c4, c5]
  ·intro a W hG hR hO hp; have h4 := hO.slot 4 (by kernel_rfl); have c0 := keep_cell d0 hG; refine wp_yields (v := .slice D days.length dp) ?_ ⟨_, rfl, rfl, Below.refl _ _, hG⟩; simp [slotOf] at h4; simp [execOp, go_sem, h4, c0]
  ·intro a W hG hR hO hp
   refine wp_enters (f := 37) (args := #[]) ?_ ((most_anyW _).mono ?_)
   ·skip
    simp [go_sem]
   ·rintro e w' ⟨rfl, hb⟩
    exact ⟨_, rfl, _, rfl, rfl, hb, below_next hG hb⟩
  ·intro a W hG hR hO hp; have h8 := hO.slot 8 (by kernel_rfl); have c0 := keep_cell e0 hG; have c1 := keep_cell e1 hG; have c2 := keep_cell e2 hG; have c3 := keep_cell e3 hG; have c4 := keep_cell e4 hG; have c5 := keep_cell e5 hG; refine wp_yields (v := gndV (some ⟨cb, 0, none⟩) cap (withPump g cell pump)) ?_ ⟨_, rfl, rfl, Below.refl _ _, hG⟩; simp [slotOf] at h8; simp [execOp, go_sem, h8, c0, c1, c2, c3, c4, c5]
  ·intro a W hG hR hO hp; have h4 := hO.slot 4 (by kernel_rfl); have c0 := keep_cell d0 hG; refine wp_yields (v := .slice D days.length dp) ?_ ⟨_, rfl, rfl, Below.refl _ _, hG⟩; simp [slotOf] at h4; simp [execOp, go_sem, h4, c0]
  ·intro a W hG hR hO hp
   have h24 : slotOf a 24 = choiceVW true := hp.1
   have h25 : slotOf a 25 = gndV (some ⟨cb, 0, none⟩) cap (withPump g cell pump) := hp.2.1
   have h26 : slotOf a 26 = .slice D days.length dp := hp.2.2.1
   refine wp_enters (f := 38) (args := #[choiceVW true, gndV (some ⟨cb, 0, none⟩) cap (withPump g cell pump), .slice D days.length dp]) ?_ ((truth_end true (withPump g cell pump) (some ⟨cb, 0, none⟩) cap days D dp W hn7 (by omega) ((HC.out.below hG).more hG.size) ((HD.out.below hG).more hG.size)).mono ?_)
   ·simp [slotOf] at h24 h25 h26
    simp [go_sem, h24, h25, h26]
   ·rintro e w' ⟨L, lp, R, rp, rfl, h2, h3, hb, h4, h5⟩
    exact ⟨_, rfl, _, rfl, ⟨L, lp, R, rp, rfl, h2, h3, fun a e => Nat.le_trans hG.size (h4 a e), fun a e => Nat.le_trans hG.size (h5 a e)⟩, hb, below_next hG hb⟩
  ·intro a W hG hR hO hp
   have h22 : slotOf a 22 = gndV (some ⟨cb, 0, none⟩) cap (withPump g cell pump) := hp.1
   have h23 : slotOf a 23 = .slice D days.length dp := hp.2.1
   have h27 := hp.2.2.1
   obtain ⟨L, lp, R, rp, h27, h2, h3, h4, h5⟩ := h27
   refine wp_enters (f := 36) (args := #[gndV (some ⟨cb, 0, none⟩) cap (withPump g cell pump), .slice D days.length dp, truthV (endOfW true (withPump g cell pump).slo (withPump g cell pump).shi) (endOfW true (withPump g cell pump).klo (withPump g cell pump).khi) L (withPump g cell pump).cells.length lp R days.length rp]) ?_ ((begin_end true (withPump g cell pump) (some ⟨cb, 0, none⟩) cap days D dp L lp R rp W hn8 ((HC.out.below hG).more hG.size) ((HD.out.below hG).more hG.size) h2 h3).mono ?_)
   ·simp [slotOf] at h22 h23 h27
    simp [go_sem, h22, h23, h27]
   ·rintro e w' ⟨b, rfl, hb1, hb2, hb⟩
    exact ⟨_, rfl, _, rfl, ⟨b, L, lp, R, rp, rfl, Nat.le_trans hG.size hb1, hb2, h4, h5⟩, hb, below_next hG hb⟩
  ·intro a W hG hR hO hp; have h2 := hO.slot 2 (by kernel_rfl); have c0 := keep_cell c0 hG; refine wp_yields (v := .int .i64 cell) ?_ ⟨_, rfl, rfl, Below.refl _ _, hG⟩; simp [slotOf] at h2; simp [execOp, go_sem, h2, c0]
  ·intro a W hG hR hO hp; have h5 := hO.slot 5 (by kernel_rfl); have c0 := keep_cell l0 hG; refine wp_yields (v := .int .i64 level) ?_ ⟨_, rfl, rfl, Below.refl _ _, hG⟩; simp [slotOf] at h5; simp [execOp, go_sem, h5, c0]
  ·intro a W hG hR hO hp; have h30 : slotOf a 30 = .int .i64 level := hp.1; refine wp_yields (v := .int .i64 (level + 1)) ?_ ⟨_, rfl, rfl, Below.refl _ _, hG⟩; simp [slotOf] at h30; simp [execOp, go_sem, h30, hlv]
 ·intro W hG hR
  rintro _ rfl _ rfl _ rfl _ rfl _ rfl _ ⟨_, _, _, _, rfl, hx1, hx2, hx3, hx4⟩ _ ⟨lb, L, lp, R, rp, rfl, hlb, hway, hq1, hq2⟩ _ rfl _ rfl _ rfl
  change wpList _ _ _ _ _ _
  simp only [Act.put, List.setIfInBounds_toArray, List.set_cons_zero, List.set_cons_succ, List.drop_succ_cons, List.drop_zero]
  have hfst := first_any _ _ lb cell (level + 1) W HF.out hway (by rw [show (mkWay (withPump g cell pump) (some ⟨cb, 0, none⟩) cap days D dp true L lp R rp).l = (withPump g cell pump).cells from rfl, HL.out]; exact hcell)
  have HFS := Lib.hid hfst
  have HNW := Lib.hid (And.intro hG hlb)
  clear hfst hway hG hR hx1 hx2 hx3 hx4 hq1 hq2 hlb hlv e0 e1 e2 e3 e4 e5 d0 c0 l0
  go_wp2_with (go_at_call 39; refine (HFS.out).mono ?_; rintro e w9 ⟨rfl, hg9⟩)
  go_ret
  exact ⟨rfl, (HS.out).kept (HNW.out).1 (HNW.out).2 hg9⟩
end

section
open Go.RowKit
structure LeAW (w : World) (gcs : Array Value) (v1 v2 v3 : Value) (W : World) : Prop where
 b0 : Whole W w.heap.size 54 gcs
 b1 : Whole W (w.heap.size + 1) 56 #[v1]
 b2 : Whole W (w.heap.size + 1 + 1) 3 #[v2]
 b3 : Whole W (w.heap.size + 1 + 1 + 1) 3 #[v3]
 below : Below w.heap.size w W
theorem LeAW.made (w : World) (gcs : Array Value) (v1 v2 v3 : Value) : LeAW w gcs v1 v2 v3 ((((w.alloc (.cells gcs 54)).alloc (.cells #[v1] 56)).alloc (.cells #[v2] 3)).alloc (.cells #[v3] 3)) := by
 refine ⟨?_, ?_, ?_, ?_, ((((Below.refl _ _).alloc (Nat.le_refl _) _).alloc (by simp) _).alloc (by simp; omega) _).alloc (by simp; omega) _⟩
 ·(simp only [Whole, heap_if, World.size_alloc]; (repeat rw [if_neg (by omega)]); rfl)
 ·(simp only [Whole, heap_if, World.size_alloc]; (repeat rw [if_neg (by omega)]); rfl)
 ·(simp only [Whole, heap_if, World.size_alloc]; (repeat rw [if_neg (by omega)]); rfl)
 ·(simp only [Whole, heap_if, World.size_alloc]; (repeat rw [if_neg (by omega)]); rfl)
theorem LeAW.later {w : World} {gcs : Array Value} {v1 v2 v3 : Value} {W W' : World} (h : LeAW w gcs v1 v2 v3 W) (hb : Below W.heap.size W W') : LeAW w gcs v1 v2 v3 W' :=
 ⟨h.b0.below hb h.b0.lt, h.b1.below hb h.b1.lt, h.b2.below hb h.b2.lt, h.b3.below hb h.b3.lt, below_next h.below hb⟩
theorem Tryz.info86 : (Tryz.prog.info? 86).map (fun i => (i.zero, i.size, i.bytes)) = some (some (.agg #[.int .i64 0, .int .i64 0, .int .i64 0, .int .i64 0, .int .i64 0, .int .i64 0, .int .i64 0]), 7, 56) := by kernel_rfl
theorem flat_oneW (l : List Cell) : ∀ u ∈ l.flatMap cellL, u.oneCell' = true := by
 intro u hu
 obtain ⟨c, _, hc⟩ := List.mem_flatMap.1 hu
 simp only [List.mem_cons, List.not_mem_nil, or_false] at hc
 rcases hc with rfl | rfl | rfl | rfl | rfl | rfl | rfl <;> rfl
theorem asked_zeroW {g : Gnd} {days : List Day} {cell level : Int} (h : askedNW g days cell level = 0) : faultN g days = 0 /\ 0 <= cell /\ cell < g.cells.length /\ 0 <= level /\ level <= 100000 := by
 unfold askedNW at h
 by_cases hf : faultN g days = 0
 ·rw [if_pos hf] at h
  cases h1 : inB cell 0 ((g.cells.length : Int) - 1)
  ·rw [h1] at h; simp at h
  ·rw [h1] at h
   cases h2 : inB level 0 100000
   ·rw [h2] at h; simp at h
   ·simp only [inB, Bool.and_eq_true, decide_eq_true_eq] at h1 h2
    exact ⟨hf, by omega, by omega, by omega, by omega⟩
 ·rw [if_neg hf] at h; exact absurd h hf
theorem fault_cells {g : Gnd} {days : List Day} (h : faultN g days = 0) : 1 <= g.cells.length /\ g.cells.length <= 8 := by
 obtain ⟨h1, _⟩ := fault_zero h
 simp only [gndB, Bool.and_eq_true, inB, decide_eq_true_eq] at h1
 omega
theorem noSelf_set (l : List Cell) : ∀ (k i : Nat) (c' : Cell), (∀ c, l[k]? = some c -> c'.tgt = c.tgt) -> noSelf (l.set k c') i = noSelf l i := by
 induction l with
 | nil => intro k i c' _; rfl
 | cons c l ih =>
  intro k i c' h
  cases k with
  | zero => simp only [List.set_cons_zero, noSelf, h c rfl]
  | succ k => simp only [List.set_cons_succ, noSelf]; rw [ih k (i + 1) c' (fun x hx => h x (by simpa using hx))]
theorem gndB_pump {g : Gnd} (h : gndB g = true) (cell : Nat) {p : Int} (h0 : 0 <= p) (h1 : p <= 100000) : gndB (withPump g cell p) = true := by
 rcases Nat.lt_or_ge cell g.cells.length with hc | hc
 ·simp only [gndB, Bool.and_eq_true] at h ⊢
  obtain ⟨⟨⟨⟨⟨a1, a2⟩, a3⟩, a4⟩, a5⟩, a6⟩ := h
  have hl := withPump_len g cell p
  rw [hl]
  refine ⟨⟨⟨⟨⟨a1, ?_⟩, a3⟩, a4⟩, a5⟩, ?_⟩
  ·rw [List.all_eq_true] at a2 ⊢
   intro x hx
   rcases List.mem_or_eq_of_mem_set hx with hx | rfl
   ·exact a2 x hx
   ·have := a2 (cAt g.cells cell) (by simp [cAt, hc])
    simp only [cellB, Bool.and_eq_true] at this ⊢
    obtain ⟨⟨⟨⟨⟨b1, b2⟩, b3⟩, b4⟩, b5⟩, b6⟩ := this
    exact ⟨⟨⟨⟨⟨b1, b2⟩, b3⟩, b4⟩, b5⟩, by simp [inB, h0, h1]⟩
  ·show noSelf (g.cells.set cell _) 0 = true
   rw [noSelf_set _ _ _ _ (fun c hx => by simp [cAt, hx]), a6]
 ·unfold withPump
  rw [List.set_eq_of_length_le hc]
  exact h
theorem fault_pump {g : Gnd} {days : List Day} (h : faultN g days = 0) (cell : Nat) {p : Int} (h0 : 0 <= p) (h1 : p <= 100000) : faultN (withPump g cell p) days = 0 := by
 unfold faultN at h ⊢
 cases hg : gndB g
 ·rw [hg] at h; simp at h
 ·rw [hg] at h
  rw [gndB_pump hg cell h0 h1]
  exact h
theorem withPump_self (g : Gnd) (cell : Nat) (h : cell < g.cells.length) : withPump g cell (cAt g.cells cell).pump = g := by
 unfold withPump
 have : g.cells.set cell { cAt g.cells cell with pump := (cAt g.cells cell).pump } = g.cells := by
  apply List.ext_getElem?
  intro i
  rw [List.getElem?_set]
  split
  ·rename_i e
   subst e
   simp [h, cAt]
  ·rfl
 rw [this]
def leastOut (g : Gnd) (days : List Day) (cell : Nat) (level : Int) (w : World) (e : Ending) (w' : World) : Prop :=
 ∃ n : Int, Halved (keepsB g days cell level) 0 100000 n (n - 1) /\ e = .returned (.tuple (if 100000 < n then #[.int .i64 0, .int .i64 9] else #[.int .i64 n, .int .i64 0])) /\ Below w.heap.size w w'
set_option maxRecDepth 100000 in
set_option maxHeartbeats 1000000 in
theorem least_ok (g : Gnd) (A : Option Addr) (ap : Nat) (days : List Day) (D : Option Addr) (dp : Nat) (cell : Nat) (level : Int) (w : World) (hn : g.cells.length <= 1000) (hm : days.length <= 1000) (hc : Row cellL 7 w w.heap.size A g.cells) (hd : Row dayL 3 w w.heap.size D days) (hf : askedNW g days cell level = 0) :
  Calls Tryz.prog 12 #[gndV A ap g, .slice D days.length dp, .int .i64 cell, .int .i64 level] w (leastOut g days cell level w) := by
 have hck := asked_anyW g A ap days D dp cell level _ hn hm (row_alloc (row_alloc (row_alloc (row_alloc hc (.cells (gndC A ap g) 54)) (.cells #[.slice D days.length dp] 56)) (.cells #[.int .i64 cell] 3)) (.cells #[.int .i64 level] 3)) (row_alloc (row_alloc (row_alloc (row_alloc hd _) _) _) _)
 rw [hf] at hck
 have HK := Lib.hid hck
 have HC := Lib.hid hc
 have HD := Lib.hid hd
 obtain ⟨hf0, _, hcl, hv0, hv1⟩ := asked_zeroW hf
 obtain ⟨hn1, hn8⟩ := fault_cells hf0
 have HF := Lib.hid hf0
 have HCL := Lib.hid hcl
 obtain ⟨b0, off0, eA, _, _⟩ := hc (by intro e; rw [e] at hn1; simp at hn1)
 subst eA
 clear hck hf hc hd hf0 hcl
 obtain ⟨i99, hi0, hz0, hz1, hz2⟩ := info_parts Tryz.info86
 have HI := Lib.hid (And.intro hi0 (And.intro hz0 (And.intro hz1 hz2)))
 clear hi0 hz0 hz1 hz2
 go_enter Tryz.func12, Tryz.ntmps12
 go_wp2_with fail
 refine (HK.out).mono ?_
 rintro e w1 ⟨rfl, hb⟩
 have HA : Hid (LeAW w (gndC (some ⟨b0, off0, none⟩) ap g) (.slice D days.length dp) (.int .i64 cell) (.int .i64 level) w1) := (LeAW.made w _ _ _ _).later hb
 clear hb HK
 have x0 := (HA.out).b0.at 0 (v := .slice (some ⟨b0, off0, none⟩) g.cells.length ap) rfl
 have hz := (HA.out).b3.lt
 have hz0 : w.heap.size < w1.heap.size := by omega
 have HO : Hid ((w1.alloc (.cells #[] 86)).ownsRow w.heap.size 86 7 (.slice (some ⟨w1.heap.size, 0, none⟩) 0 0) 0 []) :=
  ⟨by simp, .inr ⟨w1.heap.size, 0, #[], rfl, by omega, by (simp only [heap_if]; rfl), by omega, by unfold maxLen; omega, rfl, rfl⟩⟩
 have HNW := Lib.hid (row_news (enc := cellL) (s := 7) (by omega) (fun _ => rfl) (row_alloc ((HC.out.below (HA.out).below).more (HA.out).below.size) (.cells #[] 86)))
 obtain ⟨hi0, hz1, hz2, hz3⟩ := HI.out
 go_wp2_with (at_builtin; go_loud ((refine wpList_append_lies _ rfl (.tmp 22) (.tmp 24) 51 rfl w.heap.size 86 i99 (.agg #[.int .i64 0, .int .i64 0, .int .i64 0, .int .i64 0, .int .i64 0, .int .i64 0, .int .i64 0]) 7 56 Tryz.underlying51 hi0 hz1 hz2 hz3 rfl (by omega) _ 0 [] rfl HO.out ⟨b0, off0, none⟩ g.cells.length ap (g.cells.flatMap cellL) rfl (flat_len (enc := cellL) (s := 7) (fun _ => rfl) g.cells) HNW.out (flat_oneW _) (by omega) (by unfold maxLen; omega) (by omega) (by simp; omega) (w1.heap.size + 1) (by simp) ?_); intro gg cp w2 hown2 hgrow2 hat2 hlt2; simp only [Nat.zero_add, List.nil_append] at hown2 ⊢; have hb2 : Below w1.heap.size w1 w2 := ((Below.refl w1.heap.size w1).alloc (Nat.le_refl _) _).trans (below_grown hgrow2 (B := w1.heap.size) (fun q e => by have e' : some w1.heap.size = some q := e; injection e' with e'; omega) (by simp)); have HO2 := Lib.hid hown2; have HB2 := Lib.hid hb2; clear hown2 hgrow2 hat2 hlt2 hb2 hi0 hz1 hz2 hz3 HI HNW HO))
 have HL : Hid (LsAt w g cell level days D dp w2.heap.size (w.heap.size + 1 + 1) w.heap.size (w.heap.size + 1) (w.heap.size + 1 + 1 + 1) gg cp (gndC (some ⟨b0, off0, none⟩) ap g) (cAt g.cells cell).pump (w2.alloc (.cells #[.slice (some ⟨gg, 0, none⟩) g.cells.length cp] 51))) := by
  have hb := HB2.out
  have ha := HA.out
  refine ⟨Whole.made w2 51 _, (ha.b2.below hb ha.b2.lt).alloc _, (ha.b0.below hb ha.b0.lt).alloc _, (ha.b1.below hb ha.b1.lt).alloc _, (ha.b3.below hb ha.b3.lt).alloc _, ?_, (below_next ha.below hb).alloc (below_next ha.below hb).size _⟩
  rw [withPump_self g cell (by have := HCL.out; omega)]
  exact own_below HO2.out ((Below.refl _ _).alloc (Nat.le_refl _) _)
 have hp : ∀ n W, (0 : Int) <= n -> n <= 100000 -> (∃ pm, LsAt w g cell level days D dp w2.heap.size (w.heap.size + 1 + 1) w.heap.size (w.heap.size + 1) (w.heap.size + 1 + 1 + 1) gg cp (gndC (some ⟨b0, off0, none⟩) ap g) pm W) ->
   Calls Tryz.prog 35 #[.int .i64 n, .pointer (some ⟨w2.heap.size, 0, none⟩), .pointer (some ⟨w.heap.size + 1 + 1, 0, none⟩), .pointer (some ⟨w.heap.size, 0, none⟩), .pointer (some ⟨w.heap.size + 1, 0, none⟩), .pointer (some ⟨w.heap.size + 1 + 1 + 1, 0, none⟩)] W
    fun e W' => e = .returned (.bool (keepsB g days cell level n)) /\ ∃ pm, LsAt w g cell level days D dp w2.heap.size (w.heap.size + 1 + 1) w.heap.size (w.heap.size + 1) (w.heap.size + 1 + 1 + 1) gg cp (gndC (some ⟨b0, off0, none⟩) ap g) pm W' := by
  rintro n W h0 h1 ⟨pm, hW⟩
  refine (keeps_any w g cell level days D dp w2.heap.size (w.heap.size + 1 + 1) w.heap.size (w.heap.size + 1) (w.heap.size + 1 + 1 + 1) gg cp (some ⟨b0, off0, none⟩) ap pm n W (by have := HCL.out; omega) hv0 hv1 HD.out (fault_pump HF.out cell h0 h1) hW).mono ?_
  rintro e W' ⟨rfl, h⟩
  exact ⟨rfl, n, h⟩
 refine (lowest60 (keepsB g days cell level) 0 100000 _ _ _ _ _ (fun W => ∃ pm, LsAt w g cell level days D dp w2.heap.size (w.heap.size + 1 + 1) w.heap.size (w.heap.size + 1) (w.heap.size + 1 + 1 + 1) gg cp (gndC (some ⟨b0, off0, none⟩) ap g) pm W) _ (by omega) (by omega) (by omega) ⟨_, HL.out⟩ hp).mono ?_
 rintro e w3 ⟨n, rfl, hh, pm, hls⟩
 have HR : Hid (Halved (keepsB g days cell level) 0 100000 n (n - 1) /\ Below w.heap.size w w3) := ⟨hh, hls.below⟩
 clear hh hls hp HL
 by_cases hgt : 100000 < n
 ·go_wp2_with fail
  go_ret2
  exact ⟨n, HR.out.1, by rw [if_pos hgt]; rfl, HR.out.2⟩
 ·go_wp2_with fail
  go_ret2
  exact ⟨n, HR.out.1, by rw [if_neg (by omega)]; rfl, HR.out.2⟩
end

section
open Go.RowKit

abbrev cellC (c : Cell) : Array Value := #[vi c.lo, vi c.hi, vi c.cap, vi c.keep, vi c.pass, vi c.tgt, vi c.pump]
end

section
open Go.RowKit
def okTo (l : List Cell) (k : Nat) : Prop := ∀ (j : Nat) (c : Cell), j < k -> l[j]? = some c -> cellB l.length c = true /\ c.tgt ≠ (j : Int)
theorem okTo_zero (l : List Cell) : okTo l 0 := fun _ _ h => by omega
theorem okTo_succ {l : List Cell} {k : Nat} {c : Cell} (h : okTo l k) (hk : l[k]? = some c) (hc : cellB l.length c = true) (hs : c.tgt ≠ (k : Int)) : okTo l (k + 1) := fun j x hj hx => by
 rcases Nat.lt_or_ge j k with h1 | h1
 ·exact h j x h1 hx
 ·obtain rfl : j = k := by omega
  rw [hk] at hx; cases hx; exact ⟨hc, hs⟩
theorem okTo_all {l : List Cell} (h : okTo l l.length) : (l.all (cellB l.length) && noSelf l 0) = true := by
 rw [Bool.and_eq_true]
 refine ⟨?_, selfFree_all fun j c hj hc => (h j c hj hc).2⟩
 rw [List.all_eq_true]
 intro x hx
 obtain ⟨j, hj, rfl⟩ := List.mem_iff_getElem.1 hx
 exact (h j _ hj (List.getElem?_eq_getElem hj)).1
theorem okTo_bad {l : List Cell} {k : Nat} {c : Cell} (hk : l[k]? = some c) (h : cellB l.length c = false ∨ c.tgt = (k : Int)) : (l.all (cellB l.length) && noSelf l 0) = false := by
 rw [Bool.and_eq_false_iff]
 rcases h with h | h
 ·left
  rw [List.all_eq_false]
  exact ⟨c, List.mem_of_getElem? hk, by simp [h]⟩
 ·right
  exact noSelf_false l k c hk h
def headBW (n : Nat) (slo shi klo khi melt : Int) : Bool := inB n 1 8 && upB slo shi 100000 && upB klo khi 1000 && inB melt 0 50
theorem gndB_head (l : List Cell) (slo shi klo khi melt : Int) : gndB ⟨l, slo, shi, klo, khi, melt⟩ = (headBW l.length slo shi klo khi melt && (l.all (cellB l.length) && noSelf l 0)) := by
 simp only [gndB, headBW]
 cases inB (l.length : Int) 1 8 <;> cases l.all (cellB l.length) <;> cases upB slo shi 100000 <;> cases upB klo khi 1000 <;> cases inB melt 0 50 <;> cases noSelf l 0 <;> rfl
set_option maxRecDepth 100000 in
set_option maxHeartbeats 2000000 in
theorem rightGround_any (g : Gnd) (cp : Nat) (A : Option Addr) (w : World) (hn : g.cells.length <= 1000) (hrow : Row cellL 7 w w.heap.size A g.cells) :
  Calls Tryz.prog 26 #[gndV A cp g] w fun e w' => e = .returned (.bool (gndB g)) /\ Below w.heap.size w w' := by
 obtain ⟨l, slo, shi, klo, khi, melt⟩ := g
 rw [gndB_head]
 unfold gndV
 dsimp only at hn hrow ⊢
 obtain ⟨n, hnl⟩ : ∃ n, n = l.length := ⟨_, rfl⟩
 obtain ⟨t, ht⟩ : ∃ t, t = (l.all (cellB l.length) && noSelf l 0) := ⟨_, rfl⟩
 rw [<- ht]
 have HT := Lib.hid ht
 clear ht
 rw [<- hnl] at hn ⊢
 have HN := Lib.hid hnl
 clear hnl
 unfold headBW
 cases h1 : inB (n : Int) 1 8
 case' true => cases h2 : upB slo shi 100000
 case' true.true => cases h3 : upB klo khi 1000
 case' true.true.true => cases h4 : inB melt 0 50
 case true.true.true.true =>
  go_enter Tryz.func26, Tryz.ntmps26
  go_wp2_with (first | (go_at_call 28; refine (in_anyW _ _ _ _).mono ?_; rintro e w' ⟨rfl, rfl⟩) | (go_at_call 27; refine (upTo_any _ _ _ _).mono ?_; rintro e w' ⟨rfl, rfl⟩))
  have hB0 := (((Below.refl w.heap.size w).alloc (Nat.le_refl _) (.cells #[.slice A n cp, .int .i64 slo, .int .i64 shi, .int .i64 klo, .int .i64 khi, .int .i64 melt] 29)).alloc (by simp) (.cells #[.int .i64 slo, .int .i64 shi] 27)).alloc (by simp; omega) (.cells #[.int .i64 klo, .int .i64 khi] 27)
  have HB0 := Lib.hid hB0
  clear hB0
  go_loopw [4] (fun i wr => ∃ k : Nat, k <= n /\ i = .int .i64 k /\ Below w.heap.size w wr /\ wr.cell? ⟨w.heap.size, 0, none⟩ = some (.slice A n cp) /\ w.heap.size < wr.heap.size /\ okTo l k) (fun i _ => n - (intOf i).toNat)
  case atStart =>
   refine ⟨0, Nat.zero_le _, rfl, HB0.out, ?_, ?_, okTo_zero _⟩
   ·rw [World.cell?_alloc_lt _ _ _ (by simp; omega), World.cell?_alloc_lt _ _ _ (by simp)]; simp
   ·simp only [World.size_alloc]; omega
  case round =>
   obtain ⟨k, hk, rfl, hbw, hcell, hsz, he⟩ := hrel
   have HE := Lib.hid he
   clear he
   by_cases hlt : k < n
   ·obtain ⟨c, hc⟩ := get_of_lt (l := l) (k := k) (by have := HN.out; omega)
    obtain ⟨b, off, rfl, hb, h0, h1, h2, h3, h4, h5, h6⟩ := row7 (hrow.below hbw) hc
    have HC := Lib.hid hc
    have hbn : b ≠ w.heap.size := by omega
    clear hc
    have hok : cellB n c = (inB c.cap 1 100000 && upB c.lo c.hi c.cap && inB c.keep 0 c.cap && inB c.pass 0 1000 && inB c.tgt (-1) ((n : Int) - 1) && inB c.pump 0 100000) := rfl
    have HK := Lib.hid hok
    clear hok
    cases q1 : inB c.cap 1 100000
    case' true => cases q2 : upB c.lo c.hi c.cap
    case' true.true => cases q3 : inB c.keep 0 c.cap
    case' true.true.true => cases q4 : inB c.pass 0 1000
    case' true.true.true.true => cases q5 : inB c.tgt (-1) ((n : Int) - 1)
    case' true.true.true.true.true => cases q6 : (c.tgt == (k : Int))
    case' true.true.true.true.true.false => cases q7 : inB c.pump 0 100000
    case true.true.true.true.true.false.true =>
     have hgood : cellB n c = true := by rw [HK.out, q1, q2, q3, q4, q5, q7]; rfl
     have hne : c.tgt ≠ (k : Int) := by simpa using q6
     have hst : okTo l (k + 1) := okTo_succ HE.out HC.out (HN.out ▸ hgood) hne
     have HS := Lib.hid hst
     clear hgood hne hst
     go_wp2_with (first | (go_at_call 28; refine (in_anyW _ _ _ _).mono ?_; rintro e w' ⟨rfl, rfl⟩) | (go_at_call 27; refine (upTo_any _ _ _ _).mono ?_; rintro e w' ⟨rfl, rfl⟩))
     go_roundw
     case rel => exact ⟨k + 1, by omega, by go_num, (hbw.alloc hbw.size _).alloc (by simp; omega) _, by rw [World.cell?_alloc_lt _ _ _ (by simp; omega), World.cell?_alloc_lt _ _ _ hsz]; exact hcell, by simp; omega, HS.out⟩
     case measure => simp [intOf]; omega
    all_goals
     have hbad : t = false := by
      rw [HT.out]
      refine okTo_bad HC.out ?_
      rw [<- HN.out, HK.out]
      simp_all
     have HB := Lib.hid hbad
     clear hbad
     go_wp2_with (first | (go_at_call 28; refine (in_anyW _ _ _ _).mono ?_; rintro e w' ⟨rfl, rfl⟩) | (go_at_call 27; refine (upTo_any _ _ _ _).mono ?_; rintro e w' ⟨rfl, rfl⟩))
     go_ret
     refine ⟨by rw [HB.out]; rfl, ?_⟩
     first | exact hbw.alloc hbw.size _ | exact (hbw.alloc hbw.size _).alloc (by simp; omega) _
   ·go_wp2_with fail
    go_ret
    have hkn : k = l.length := by have := HN.out; omega
    exact ⟨by rw [HT.out, okTo_all (hkn ▸ HE.out)]; rfl, hbw⟩
 all_goals
  (go_enter Tryz.func26, Tryz.ntmps26
   go_wp2_with (first | (go_at_call 28; refine (in_anyW _ _ _ _).mono ?_; rintro e w' ⟨rfl, rfl⟩) | (go_at_call 27; refine (upTo_any _ _ _ _).mono ?_; rintro e w' ⟨rfl, rfl⟩))
   go_ret
   refine ⟨by simp, ?_⟩
   first
    | exact (Below.refl _ _).alloc (Nat.le_refl _) _
    | exact ((Below.refl _ _).alloc (Nat.le_refl _) _).alloc (by simp) _
    | exact (((Below.refl _ _).alloc (Nat.le_refl _) _).alloc (by simp) _).alloc (by simp; omega) _)
def dayTo (l : List Day) (k : Nat) : Prop := ∀ (j : Nat) (d : Day), j < k -> l[j]? = some d -> dayB d = true
theorem dayTo_zero (l : List Day) : dayTo l 0 := fun _ _ h => by omega
theorem dayTo_succ {l : List Day} {k : Nat} {d : Day} (h : dayTo l k) (hk : l[k]? = some d) (hc : dayB d = true) : dayTo l (k + 1) := fun j x hj hx => by
 rcases Nat.lt_or_ge j k with h1 | h1
 ·exact h j x h1 hx
 ·obtain rfl : j = k := by omega
  rw [hk] at hx; cases hx; exact hc
theorem dayTo_all {l : List Day} (h : dayTo l l.length) : l.all dayB = true := by
 rw [List.all_eq_true]
 intro x hx
 obtain ⟨j, hj, rfl⟩ := List.mem_iff_getElem.1 hx
 exact h j _ hj (List.getElem?_eq_getElem hj)
theorem dayTo_bad {l : List Day} {k : Nat} {d : Day} (hk : l[k]? = some d) (h : dayB d = false) : l.all dayB = false := by
 rw [List.all_eq_false]
 exact ⟨d, List.mem_of_getElem? hk, by simp [h]⟩
set_option maxRecDepth 100000 in
set_option maxHeartbeats 2000000 in
theorem refFault_any (g : Gnd) (cp : Nat) (A : Option Addr) (days : List Day) (dp : Nat) (D : Option Addr) (w : World) (hn : g.cells.length <= 1000) (hm : days.length <= 1000)
  (hrow : Row cellL 7 w w.heap.size A g.cells) (hday : Row dayL 3 w w.heap.size D days) :
  Calls Tryz.prog 7 #[gndV A cp g, .slice D days.length dp] w fun e w' => e = .returned (.int .i64 (faultN g days)) /\ Below w.heap.size w w' := by
 have hck : ∀ o, Calls Tryz.prog 26 #[gndV A cp g] (w.alloc o) fun e w' => e = .returned (.bool (gndB g)) /\ Below (w.alloc o).heap.size (w.alloc o) w' := fun o =>
  rightGround_any g cp A _ hn ((hrow.below ((Below.refl _ _).alloc (Nat.le_refl _) o)).more (by simp))
 have HK := Lib.hid hck
 clear hck
 rw [show faultN g days = if gndB g = true then (if days.length > 30 then 3 else errB (days.all dayB)) else 1 from rfl]
 obtain ⟨t, ht⟩ : ∃ t, t = days.all dayB := ⟨_, rfl⟩
 rw [<- ht]
 have HT := Lib.hid ht
 clear ht
 obtain ⟨m, hmm⟩ : ∃ m, m = days.length := ⟨_, rfl⟩
 rw [<- hmm] at hm ⊢
 have HM := Lib.hid hmm
 clear hmm
 cases hg : gndB g
 case' true => by_cases h2 : m > 30
 case neg =>
  rw [hg] at HK
  rw [if_neg h2]
  clear hg
  simp only [if_true]
  go_enter Tryz.func7, Tryz.ntmps7
  go_wp2_with (go_at_call 26; refine (HK.out _).mono ?_; rintro e w1 ⟨rfl, hb⟩; have hb1 := below_step ((Below.refl w.heap.size w).alloc (Nat.le_refl _) _) hb (by simp))
  go_loopw [5] (fun i wr => ∃ k : Nat, k <= m /\ i = .int .i64 k /\ Below w.heap.size w wr /\ dayTo days k) (fun i _ => m - (intOf i).toNat)
  case atStart => exact ⟨0, Nat.zero_le _, rfl, hb1, dayTo_zero _⟩
  case round =>
   obtain ⟨k, hk, rfl, hbw, he⟩ := hrel
   have HE := Lib.hid he
   clear he
   by_cases hlt : k < m
   ·obtain ⟨d, hd⟩ := get_of_lt (l := days) (k := k) (by have := HM.out; omega)
    obtain ⟨b, off, rfl, hbb, h0, h1, h2⟩ := row3W (hday.below hbw) hd
    have HC := Lib.hid hd
    have hok : dayB d = (upB d.lo d.hi 1000 && inB d.warm (-50) 50) := rfl
    have HB := Lib.hid hok
    have hw0 : ∀ o, (wr.alloc o).cell? ⟨b, off + k * 3 + 2, none⟩ = some (.int .i64 d.warm) := fun o => cell_alloc h2 o
    clear hd hok
    cases q1 : upB d.lo d.hi 1000
    case' true => cases q2 : inB d.warm (-50) 50
    case true.true =>
     have hst : dayTo days (k + 1) := dayTo_succ HE.out HC.out (by rw [HB.out, q1, q2]; rfl)
     have HS := Lib.hid hst
     clear hst
     go_wp2_with (first | (go_at_call 28; refine (in_anyW _ _ _ _).mono ?_; rintro e w' ⟨rfl, rfl⟩) | (go_at_call 27; refine (upTo_any _ _ _ _).mono ?_; rintro e w' ⟨rfl, rfl⟩))
     go_roundw
     case rel => exact ⟨k + 1, by omega, by go_num, hbw.alloc hbw.size _, HS.out⟩
     case measure => simp [intOf]; omega
    all_goals
     have hbad : t = false := by
      rw [HT.out]
      refine dayTo_bad HC.out ?_
      rw [HB.out]
      simp_all
     have HX := Lib.hid hbad
     clear hbad
     go_wp2_with (first | (go_at_call 28; refine (in_anyW _ _ _ _).mono ?_; rintro e w' ⟨rfl, rfl⟩) | (go_at_call 27; refine (upTo_any _ _ _ _).mono ?_; rintro e w' ⟨rfl, rfl⟩))
     go_ret
     exact ⟨by rw [HX.out]; rfl, hbw.alloc hbw.size _⟩
   ·go_wp2_with fail
    go_ret
    have hkm : k = days.length := by have := HM.out; omega
    exact ⟨by rw [HT.out, dayTo_all (hkm ▸ HE.out)]; rfl, hbw⟩
 case pos =>
  rw [hg] at HK
  rw [if_pos h2]
  clear hg
  simp only [if_true]
  go_enter Tryz.func7, Tryz.ntmps7
  go_wp2_with (go_at_call 26; refine (HK.out _).mono ?_; rintro e w1 ⟨rfl, hb⟩; have hb1 := below_step ((Below.refl w.heap.size w).alloc (Nat.le_refl _) _) hb (by simp))
  go_ret
  exact ⟨rfl, hb1⟩
 case false =>
  rw [hg] at HK
  clear hg
  go_enter Tryz.func7, Tryz.ntmps7
  go_wp2_with (go_at_call 26; refine (HK.out _).mono ?_; rintro e w1 ⟨rfl, hb⟩; have hb1 := below_step ((Below.refl w.heap.size w).alloc (Nat.le_refl _) _) hb (by simp))
  go_ret
  exact ⟨rfl, hb1⟩
def thinBW (n m : Nat) : Bool := decide (n <= 10) && decide (m <= 35)
set_option maxHeartbeats 400000 in
theorem thin_any (g : Gnd) (cp : Nat) (A : Option Addr) (m dp : Nat) (D : Option Addr) (w : World) :
  Calls Tryz.prog 6 #[gndV A cp g, .slice D m dp] w fun e w' => e = .returned (.bool (thinBW g.cells.length m)) /\ Below w.heap.size w w' := by
 unfold thinBW
 by_cases h1 : g.cells.length <= 10 <;> by_cases h2 : m <= 35 <;>
 (go_enter Tryz.func6, Tryz.ntmps6
  go_wp2
  go_ret
  exact ⟨by first | (simp [h1, h2]; done) | (simp [h1, h2]; omega), (Below.refl _ _).alloc (Nat.le_refl _) _⟩)
end

section
structure Drier (l' l : List Cell) : Prop where
 len : l'.length = l.length
 cap : ∀ i, i < l.length -> (cAt l' i).cap = (cAt l i).cap
 keep : ∀ i, i < l.length -> (cAt l' i).keep = (cAt l i).keep
 pass : ∀ i, i < l.length -> (cAt l' i).pass = (cAt l i).pass
 tgt : ∀ i, i < l.length -> (cAt l' i).tgt = (cAt l i).tgt
 pump : ∀ i, i < l.length -> (cAt l i).pump <= (cAt l' i).pump
theorem Drier.refl (l : List Cell) : Drier l l := ⟨rfl, fun _ _ => rfl, fun _ _ => rfl, fun _ _ => rfl, fun _ _ => rfl, fun _ _ => Int.le_refl _⟩
section
variable {c c' : Cell} {x x' : Int}
theorem stays_mono (hp : c.pump <= c'.pump) (hx : x' <= x) : staysF c' x' <= staysF c x := by
 unfold staysF takenF; omega
theorem over_mono (hp : c.pump <= c'.pump) (hk : c'.keep = c.keep) (hx : x' <= x) : overF c' x' <= overF c x /\ overF c x - overF c' x' <= staysF c x - staysF c' x' := by
 have := stays_mono (c := c) (c' := c') hp hx
 unfold overF; omega
theorem on_mono (hp : c.pump <= c'.pump) (hk : c'.keep = c.keep) (hpa : c'.pass = c.pass) (p0 : 0 <= c.pass) (p1 : c.pass <= 1000) (hx : x' <= x) : onF c' x' <= onF c x /\ staysF c' x' - onF c' x' <= staysF c x - onF c x := by
 obtain ⟨h1, h2⟩ := over_mono hp hk hx
 unfold onF
 rw [hpa]
 have a : overF c' x' * c.pass <= overF c x * c.pass := Int.mul_le_mul_of_nonneg_right h1 p0
 have b : (overF c x - overF c' x') * c.pass <= (overF c x - overF c' x') * 1000 := Int.mul_le_mul_of_nonneg_left p1 (by omega)
 rw [Int.sub_mul] at b
 omega
end
section
variable {l l' : List Cell} {f f' : Nat -> Int} {s s' : Int}
theorem inflow_mono (hd : Drier l' l) (hc : CsOk l) (hf : ∀ i, i < l.length -> f' i <= f i) (i : Nat) : ∀ k, k <= l.length -> inflow l' f' i k <= inflow l f i k
 | 0, _ => Int.le_refl _
 | k + 1, hk => by
  have ih := inflow_mono hd hc hf i k (by omega)
  have ho := (on_mono (hd.pump k (by omega)) (hd.keep k (by omega)) (hd.pass k (by omega)) (hc k (by omega)).pass1 (hc k (by omega)).pass2 (hf k (by omega))).1
  simp only [inflow]
  rw [hd.tgt k (by omega)]
  split <;> omega
theorem newLv_mono (hd : Drier l' l) (hc : CsOk l) (hf : ∀ i, i < l.length -> f' i <= f i) (hs : s' <= s) (i : Nat) (hi : i < l.length) : newLv l' f' s' i <= newLv l f s i := by
 have hin := inflow_mono hd hc hf i l.length (Nat.le_refl _)
 have ho := (on_mono (hd.pump i hi) (hd.keep i hi) (hd.pass i hi) (hc i hi).pass1 (hc i hi).pass2 (hf i hi)).2
 unfold newLv nowF baseF
 rw [hd.len, if_pos hi, if_pos hi, if_pos hi, if_pos hi, hd.cap i hi]
 omega
end
theorem down_mono {m : Int} {d : Day} {r r' s s' : Int} (hr : r' <= r) (hs : s' <= s) : downOf m d r' s' <= downOf m d r s := by
 unfold downOf meltOf
 split <;> omega
theorem snow_mono {m : Int} {d : Day} {r r' s s' : Int} (hr : r' <= r) (hs : s' <= s) : snowOf m d r' s' <= snowOf m d r s := by
 unfold snowOf meltOf
 split <;> omega
theorem stAt_mono {l l' : List Cell} {melt k k' : Int} {days : List Day} {rain rain' : List Int} {x x' : St} (h : WayOk l melt k days rain x) (h' : WayOk l' melt k' days rain' x') (hd : Drier l' l) (hk : k' <= k)
  (hr : ∀ i, i < days.length -> iAt rain' i <= iAt rain i) (hf : ∀ i, i < l.length -> x'.f i <= x.f i) (hs : x'.snow <= x.snow) :
  ∀ n, n <= days.length -> (∀ i, i < l.length -> (stAt l' melt k' days rain' x' n).f i <= (stAt l melt k days rain x n).f i) /\ (stAt l' melt k' days rain' x' n).snow <= (stAt l melt k days rain x n).snow
 | 0, _ => ⟨hf, hs⟩
 | n + 1, hn => by
  obtain ⟨ih1, ih2⟩ := stAt_mono h h' hd hk hr hf hs n (by omega)
  have ok' := stAt_ok h' n (by omega)
  have hrb := h'.rs n (by omega)
  have hdb := down_bd (h'.ds n (by omega)) h'.melt0 h'.melt1 hrb.1 hrb.2 ok'.snow0
  have hdm := down_mono (m := melt) (d := dAtW days n) (hr n (by omega)) ih2
  refine ⟨fun i hi => ?_, snow_mono (hr n (by omega)) ih2⟩
  exact newLv_mono hd h.cells ih1 (soaks_mono h'.soak0 hk hdb.1 hdm) i hi
end

section
open Go.RowKit
theorem map_set_same {α : Type} (f : Cell -> α) (l : List Cell) (k : Nat) (c : Cell) (h : f c = f (cAt l k)) : (l.set k c).map f = l.map f := by
 apply List.ext_getElem?
 intro i
 rw [List.getElem?_map, List.getElem?_map, List.getElem?_set]
 by_cases e : k = i
 ·subst e
  rw [if_pos rfl]
  by_cases hl : k < l.length
  ·rw [if_pos hl]
   simp [h, cAt, hl]
  ·rw [if_neg hl]
   simp [show l.length <= k by omega]
 ·rw [if_neg e]
theorem stEnd_pump (hi : Bool) (g : Gnd) (cell : Nat) (p : Int) : stEnd hi (withPump g cell p) = stEnd hi g := by
 unfold stEnd withPump
 simp only
 rw [map_set_same]
 rfl
theorem cAt_set {l : List Cell} {k i : Nat} {c : Cell} (h : i < l.length) : cAt (l.set k c) i = if i = k then c else cAt l i := by
 unfold cAt
 rw [List.getElem?_set]
 by_cases e : k = i
 ·subst e; rw [if_pos rfl, if_pos h, if_pos rfl]; rfl
 ·rw [if_neg e, if_neg (Ne.symm e)]
theorem drier_pump (g : Gnd) (cell : Nat) {p q : Int} (h : p <= q) : Drier (withPump g cell q).cells (withPump g cell p).cells := by
 have hl : (withPump g cell p).cells.length = g.cells.length := withPump_len g cell p
 refine ⟨by rw [withPump_len, withPump_len], ?_, ?_, ?_, ?_, ?_⟩ <;>
 ·intro i hi
  rw [hl] at hi
  unfold withPump
  simp only
  rw [cAt_set hi, cAt_set hi]
  split <;> simp [h]
theorem stE_pump_mono {g : Gnd} {days : List Day} (hf : faultN g days = 0) (hi : Bool) (cell : Nat) {p q : Int} (h0 : 0 <= p) (h : p <= q) (h1 : q <= 100000) (k : Nat) (hk : k <= days.length) (i : Nat) (hil : i < g.cells.length) :
  (stE hi (withPump g cell q) days k).f i <= (stE hi (withPump g cell p) days k).f i := by
 have ok1 := wayOk_end hi (fault_pump hf cell h0 (by omega : p <= 100000))
 have ok2 := wayOk_end hi (fault_pump hf cell (by omega : (0 : Int) <= q) h1)
 refine (stAt_mono ok1 ok2 (drier_pump g cell h) (Int.le_refl _) (fun _ _ => Int.le_refl _) (fun i _ => ?_) ?_ k hk).1 i (by rw [withPump_len]; exact hil)
 ·rw [stEnd_pump, stEnd_pump]; exact Int.le_refl _
 ·rw [stEnd_pump, stEnd_pump]; exact Int.le_refl _
theorem keepsB_mono {g : Gnd} {days : List Day} (hf : faultN g days = 0) {cell : Nat} (hc : cell < g.cells.length) (level : Int) {p q : Int} (h0 : 0 <= p) (h : p <= q) (h1 : q <= 100000) (hp : keepsB g days cell level p = true) : keepsB g days cell level q = true := by
 unfold keepsB at hp ⊢
 rw [firstD_none] at hp ⊢
 intro k hk
 have := hp k hk
 have hm := stE_pump_mono hf true cell h0 h h1 (k + 1) (by omega) cell hc
 simp only [decide_eq_false_iff_not] at this ⊢
 omega
end

section
open Go.RowKit
theorem Tryz.info88 : (Tryz.prog.info? 88).map (fun i => (i.zero, i.size, i.bytes)) = some (some (.agg #[.int .i64 0, .int .i64 0, .int .i64 0]), 3, 24) := by kernel_rfl
def daysOut (w : World) (days : List Day) (e : Ending) (w' : World) : Prop := ∃ A cp, e = .returned (.slice A days.length cp) /\ Row dayL 3 w' w'.heap.size A days /\ Below w.heap.size w w'
set_option maxRecDepth 100000 in
set_option maxHeartbeats 2000000 in
theorem lawDays (days : List Day) (D : Option Addr) (dp : Nat) (w : World) (hm : days.length <= 1000) (hd : Row dayL 3 w w.heap.size D days) :
  Calls Tryz.prog 14 #[.slice D days.length dp] w (daysOut w days) := by
 obtain ⟨i101, hi0, hz0, hz1, hz2⟩ := info_parts Tryz.info88
 have HI := Lib.hid (And.intro hi0 (And.intro hz0 (And.intro hz1 hz2)))
 clear hi0 hz0 hz1 hz2
 have HD := Lib.hid hd
 clear hd
 go_enter Tryz.func14, Tryz.ntmps14
 go_wp2_with fail
 go_loopw [3, 4] (fun s3 s4 wr => ∃ k : Nat, k <= days.length /\ s4 = .int .i64 k /\ Below w.heap.size w wr /\ wr.ownsRow w.heap.size 88 3 s3 k ((days.take k).flatMap dayL)) (fun _ s4 _ => days.length - (intOf s4).toNat)
 case atStart => exact ⟨0, Nat.zero_le _, rfl, Below.refl _ _, by simp, .inl ⟨rfl, rfl⟩⟩
 case round =>
  obtain ⟨k, hk, rfl, hbw, hown⟩ := hrel
  by_cases hlt : k < days.length
  ·obtain ⟨d, hdk⟩ := get_of_lt hlt
   obtain ⟨b, off, rfl, hb, h0, h1, h2⟩ := row3W (HD.out.below hbw) hdk
   have hkn : (k : Int) < days.length := by omega
   have HDK := Lib.hid hdk
   have HO := Lib.hid hown
   have HB := Lib.hid hbw
   clear hown hbw hdk
   go_wp2_with fail
   refine wp_words (by kernel_rfl) (region_told 14 (by kernel_rfl) (by kernel_rfl) (fun W => Below wr.heap.size wr W) newer (pickD [vIs (u3), vIs (.slice (some ⟨b, off, none⟩) days.length dp), vIs (.int .i64 k), vIs (.pointer (some ⟨b, off + k * 3, none⟩)), vIs (.pointer (some ⟨b, off + k * 3, none⟩)), vIs (.agg #[vi d.lo, vi d.hi]), vIs (.agg #[vi d.lo, vi d.hi]), vIs (.slice (some ⟨b, off, none⟩) days.length dp), vIs (.int .i64 k), vIs (.pointer (some ⟨b, off + k * 3, none⟩)), vIs (.pointer (some ⟨b, off + k * 3 + 2, none⟩)), vIs (vi d.warm), vIs (dayV d), vOne wr.heap.size 88 #[vi d.lo, vi d.hi, vi d.warm]]) (fun h k => newer_trans h k) (pickD_stable _ ⟨vIs_st, vIs_st, vIs_st, vIs_st, vIs_st, vIs_st, vIs_st, vIs_st, vIs_st, vIs_st, vIs_st, vIs_st, vIs_st, vOne_st, trivial⟩) (Below.refl _ wr).drew (Below.refl _ _) ?_ ?_)
   ·refine ⟨?_, ?_, ?_, ?_, ?_, ?_, ?_, ?_, ?_, ?_, ?_, ?_, ?_, ?_, trivial⟩
    ·intro a W hG hR hO hp; have h3 := hO.slot 3 (by kernel_rfl); refine wp_yields (v := u3) ?_ ⟨_, rfl, rfl, Below.refl _ _, hG⟩; simp [slotOf] at h3; simp [execOp, go_sem, h3]
    ·intro a W hG hR hO hp; have h0 := hO.slot 0 (by kernel_rfl); refine wp_yields (v := .slice (some ⟨b, off, none⟩) days.length dp) ?_ ⟨_, rfl, rfl, Below.refl _ _, hG⟩; simp [slotOf] at h0; simp [execOp, go_sem, h0]
    ·intro a W hG hR hO hp; have h4 := hO.slot 4 (by kernel_rfl); refine wp_yields (v := .int .i64 k) ?_ ⟨_, rfl, rfl, Below.refl _ _, hG⟩; simp [slotOf] at h4; simp [execOp, go_sem, h4]
    ·intro a W hG hR hO hp; have h12 : slotOf a 12 = .slice (some ⟨b, off, none⟩) days.length dp := hp.1; have h13 : slotOf a 13 = .int .i64 k := hp.2.1; refine wp_yields (v := .pointer (some ⟨b, off + k * 3, none⟩)) ?_ ⟨_, rfl, rfl, Below.refl _ _, hG⟩; simp [slotOf] at h12 h13; simp [execOp, go_sem, h12, h13, hkn]
    ·intro a W hG hR hO hp; have h14 : slotOf a 14 = .pointer (some ⟨b, off + k * 3, none⟩) := hp.1; refine wp_yields (v := .pointer (some ⟨b, off + k * 3, none⟩)) ?_ ⟨_, rfl, rfl, Below.refl _ _, hG⟩; simp [slotOf] at h14; simp [execOp, go_sem, h14]
    ·intro a W hG hR hO hp; have h15 : slotOf a 15 = .pointer (some ⟨b, off + k * 3, none⟩) := hp.1; have c0 := keep_cell h0 hG; have c1 := keep_cell h1 hG; refine wp_yields (v := .agg #[vi d.lo, vi d.hi]) ?_ ⟨_, rfl, rfl, Below.refl _ _, hG⟩; simp [slotOf] at h15; simp [execOp, go_sem, h15, c0, c1]
    ·intro a W hG hR hO hp
     have h16 : slotOf a 16 = .agg #[vi d.lo, vi d.hi] := hp.1
     refine wp_enters (f := 41) (args := #[.agg #[vi d.lo, vi d.hi]]) ?_ ((to_anyW d.lo d.hi W).mono ?_)
     ·simp [slotOf] at h16
      simp [go_sem, h16]
     ·rintro e w' ⟨rfl, hb⟩
      exact ⟨_, rfl, _, rfl, rfl, hb, below_next hG hb⟩
    ·intro a W hG hR hO hp; have h0 := hO.slot 0 (by kernel_rfl); refine wp_yields (v := .slice (some ⟨b, off, none⟩) days.length dp) ?_ ⟨_, rfl, rfl, Below.refl _ _, hG⟩; simp [slotOf] at h0; simp [execOp, go_sem, h0]
    ·intro a W hG hR hO hp; have h4 := hO.slot 4 (by kernel_rfl); refine wp_yields (v := .int .i64 k) ?_ ⟨_, rfl, rfl, Below.refl _ _, hG⟩; simp [slotOf] at h4; simp [execOp, go_sem, h4]
    ·intro a W hG hR hO hp; have h18 : slotOf a 18 = .slice (some ⟨b, off, none⟩) days.length dp := hp.1; have h19 : slotOf a 19 = .int .i64 k := hp.2.1; refine wp_yields (v := .pointer (some ⟨b, off + k * 3, none⟩)) ?_ ⟨_, rfl, rfl, Below.refl _ _, hG⟩; simp [slotOf] at h18 h19; simp [execOp, go_sem, h18, h19, hkn]
    ·intro a W hG hR hO hp; have h20 : slotOf a 20 = .pointer (some ⟨b, off + k * 3, none⟩) := hp.1; refine wp_yields (v := .pointer (some ⟨b, off + k * 3 + 2, none⟩)) ?_ ⟨_, rfl, rfl, Below.refl _ _, hG⟩; simp [slotOf] at h20; simp [execOp, go_sem, h20]
    ·intro a W hG hR hO hp; have h21 : slotOf a 21 = .pointer (some ⟨b, off + k * 3 + 2, none⟩) := hp.1; have c0 := keep_cell h2 hG; refine wp_yields (v := vi d.warm) ?_ ⟨_, rfl, rfl, Below.refl _ _, hG⟩; simp [slotOf] at h21; simp [execOp, go_sem, h21, c0]
    ·intro a W hG hR hO hp; have h17 : slotOf a 17 = .agg #[vi d.lo, vi d.hi] := hp.1; have h22 : slotOf a 22 = vi d.warm := hp.2.1; refine wp_yields (v := dayV d) ?_ ⟨_, rfl, rfl, Below.refl _ _, hG⟩; simp [slotOf] at h17 h22; simp [execOp, go_sem, h17, h22]
    ·intro a W hG hR hO hp; have h23 : slotOf a 23 = dayV d := hp.1; refine wp_makes (v := .slice (some ⟨W.heap.size, 0, none⟩) 1 1) (W' := W.alloc (.cells #[vi d.lo, vi d.hi, vi d.warm] 88)) ?_ ⟨_, rfl, ⟨_, rfl, hG.size, Whole.made _ _ _⟩, (Below.refl _ _).alloc (Nat.le_refl _) _, hG.alloc hG.size _⟩; simp [slotOf] at h23; simp [execOp, go_sem, h23]
   ·intro W hG hR
    rintro _ rfl _ rfl _ rfl _ rfl _ rfl _ rfl _ rfl _ rfl _ rfl _ rfl _ rfl _ rfl _ rfl _ ⟨nb1, rfl, hnb1, hW1⟩
    change wpList _ _ _ _ _ _
    simp only [Act.put, List.setIfInBounds_toArray, List.set_cons_zero, List.set_cons_succ, List.drop_succ_cons, List.drop_zero]
    have HO2 := Lib.hid (own_below HO.out hG)
    have HNW := Lib.hid (World.news_of_block hW1)
    have HB2 := Lib.hid (below_next HB.out hG)
    have hbs := (below_next HB.out hG).size
    obtain ⟨hi0, hz0, hz1, hz2⟩ := HI.out
    clear hG hR hnb1 hW1 h0 h1 h2
    go_wp2_with (at_builtin; go_loud ((refine wpList_append_lies _ rfl (.tmp 11) (.tmp 24) 56 rfl w.heap.size 88 i101 (.agg #[.int .i64 0, .int .i64 0, .int .i64 0]) 3 24 Tryz.underlying56 hi0 hz0 hz1 hz2 rfl (by omega) _ k _ rfl HO2.out ⟨nb1, 0, none⟩ 1 1 (dayL d) rfl rfl HNW.out (by simp [Value.oneCell']) (by omega) (by unfold maxLen; omega) (by omega) hbs W.heap.size rfl ?_); intro gg cp2 w2 hown2 hgrow2 hat2 hlt2; rw [<- take_flat dayL days k d HDK.out] at hown2; have HO3 := Lib.hid hown2; have HB3 := Lib.hid ((HB2.out).grown hgrow2 hbs (own_ge HO2.out)); clear hown2 hgrow2 hat2 hi0 hz0 hz1 hz2))
    go_roundw
    case rel => exact ⟨k + 1, by omega, by go_num, HB3.out, HO3.out⟩
    case measure => simp [intOf]; omega
  ·have hkn : k = days.length := by omega
   subst hkn
   rw [List.take_of_length_le (Nat.le_refl _)] at hown
   obtain ⟨A2, c2, rfl⟩ := own_form hown
   have HF := Lib.hid (And.intro hbw hown)
   clear hbw hown
   go_wp2_with fail
   go_ret
   exact ⟨A2, c2, rfl, row_of_own (by omega) (fun _ => rfl) HF.out.2, HF.out.1⟩
structure GrMid (w : World) (gcs : Array Value) (ob : Nat) (lv : Value) (g : Gnd) (W : World) : Prop where
 below : Below w.heap.size w W
 gb : Whole W w.heap.size 29 gcs
 rb : Whole W (w.heap.size + 1) 54 #[.slice none 0 0, vi 0, vi 0, vi 0, vi 0, vi 0]
 ot : Whole W ob 54 #[lv, vi g.slo, vi g.shi, vi g.klo, vi g.khi, vi g.melt]
 far : w.heap.size + 1 < ob
section
variable {w : World} {gcs : Array Value} {ob : Nat} {lv : Value} {g : Gnd} {W W' : World}
theorem GrMid.newer (h : GrMid w gcs ob lv g W) (hb : newer W W') : GrMid w gcs ob lv g W' :=
 ⟨below_next h.below hb, h.gb.below hb h.gb.lt, h.rb.below hb h.rb.lt, h.ot.below hb h.ot.lt, h.far⟩
theorem GrMid.grown (h : GrMid w gcs ob lv g W) {v : Value} {n : Nat} {xs : List Value} (ho : W.ownsRow w.heap.size 86 7 v n xs) (hg : W.grownBy W' v.ownBlock) : GrMid w gcs ob lv g W' :=
 ⟨h.below.grown hg h.below.size (own_ge ho), h.gb.grown hg (own_ne ho h.gb (by decide)).symm, h.rb.grown hg (own_ne ho h.rb (by decide)).symm, h.ot.grown hg (own_ne ho h.ot (by decide)).symm, h.far⟩
theorem GrMid.set (h : GrMid w gcs ob lv g W) (u : Value) : GrMid w gcs ob u g (W.setCell ⟨ob, 0, none⟩ u) := by
 have hf := h.far
 exact ⟨h.below.setCell (p := ⟨ob, 0, none⟩) (by dsimp only; omega) _, h.gb.far (by dsimp only; omega) _, h.rb.far (by dsimp only; omega) _, h.ot.set 0 u, hf⟩
end
def groundOut (w : World) (g : Gnd) (e : Ending) (w' : World) : Prop := ∃ A cp, e = .returned (gndV A cp g) /\ Row cellL 7 w' w'.heap.size A g.cells /\ Below w.heap.size w w'
set_option maxRecDepth 100000 in
set_option maxHeartbeats 2000000 in
theorem lawGround (g : Gnd) (A : Option Addr) (ap : Nat) (w : World) (hn : g.cells.length <= 1000) (hc : Row cellL 7 w w.heap.size A g.cells) :
  Calls Tryz.prog 13 #[gndV A ap g] w (groundOut w g) := by
 obtain ⟨i99, hi0, hz0, hz1, hz2⟩ := info_parts Tryz.info86
 have HI := Lib.hid (And.intro hi0 (And.intro hz0 (And.intro hz1 hz2)))
 clear hi0 hz0 hz1 hz2
 have HC := Lib.hid hc
 clear hc
 go_enter Tryz.func13, Tryz.ntmps13
 go_wp2_with fail
 refine gen_world (fun W => Below w.heap.size w W /\ Whole W w.heap.size 29 (gndC A ap g) /\ Whole W (w.heap.size + 1) 54 #[.slice none 0 0, vi 0, vi 0, vi 0, vi 0, vi 0]) ⟨((Below.refl _ _).alloc (Nat.le_refl _) _).alloc (by simp) _, (Whole.made w 29 _).alloc _, ?_⟩ ?_
 ·have := Whole.made (w.alloc (.cells (gndC A ap g) 29)) 54 #[.slice none 0 0, vi 0, vi 0, vi 0, vi 0, vi 0]
  rw [World.size_alloc] at this
  exact this
 rintro wv ⟨hbv, hgv, hrv⟩
 have g1 := hgv.at 1 (v := vi g.slo) rfl
 have g2 := hgv.at 2 (v := vi g.shi) rfl
 have g3 := hgv.at 3 (v := vi g.klo) rfl
 have g4 := hgv.at 4 (v := vi g.khi) rfl
 have g5 := hgv.at 5 (v := vi g.melt) rfl
 have HV := Lib.hid (And.intro hbv (And.intro hgv hrv))
 have hlv := hrv.lt
 clear hbv hgv hrv
 refine wp_words (by kernel_rfl) (region_told 10 (by kernel_rfl) (by kernel_rfl) (fun W => Below wv.heap.size wv W) newer (pickD [vIs (.pointer (some ⟨w.heap.size, 1, none⟩)), vIs (.agg #[vi g.slo, vi g.shi]), vIs (.agg #[vi g.slo, vi g.shi]), vIs (.pointer (some ⟨w.heap.size, 3, none⟩)), vIs (.agg #[vi g.klo, vi g.khi]), vIs (.agg #[vi g.klo, vi g.khi]), vIs (.pointer (some ⟨w.heap.size, 5, none⟩)), vIs (vi g.melt), vIs (.agg #[.slice none 0 0, vi g.slo, vi g.shi, vi g.klo, vi g.khi, vi g.melt]), vBox wv.heap.size 54 #[.slice none 0 0, vi 0, vi 0, vi 0, vi 0, vi 0]]) (fun h k => newer_trans h k) (pickD_stable _ ⟨vIs_st, vIs_st, vIs_st, vIs_st, vIs_st, vIs_st, vIs_st, vIs_st, vIs_st, vBox_st, trivial⟩) (Below.refl _ wv).drew (Below.refl _ _) ?_ ?_)
 ·refine ⟨?_, ?_, ?_, ?_, ?_, ?_, ?_, ?_, ?_, ?_, trivial⟩
  ·intro a W hG hR hO hp; have h1 := hO.slot 1 (by kernel_rfl); refine wp_yields (v := .pointer (some ⟨w.heap.size, 1, none⟩)) ?_ ⟨_, rfl, rfl, Below.refl _ _, hG⟩; simp [slotOf] at h1; simp [execOp, go_sem, h1]
  ·intro a W hG hR hO hp; have h6 : slotOf a 6 = .pointer (some ⟨w.heap.size, 1, none⟩) := hp.1; have c0 := keep_cell g1 hG; have c1 := keep_cell g2 hG; refine wp_yields (v := .agg #[vi g.slo, vi g.shi]) ?_ ⟨_, rfl, rfl, Below.refl _ _, hG⟩; simp [slotOf] at h6; simp [execOp, go_sem, h6, c0, c1]
  ·intro a W hG hR hO hp
   have h7 : slotOf a 7 = .agg #[vi g.slo, vi g.shi] := hp.1
   refine wp_enters (f := 41) (args := #[.agg #[vi g.slo, vi g.shi]]) ?_ ((to_anyW g.slo g.shi W).mono ?_)
   ·simp [slotOf] at h7
    simp [go_sem, h7]
   ·rintro e w' ⟨rfl, hb⟩
    exact ⟨_, rfl, _, rfl, rfl, hb, below_next hG hb⟩
  ·intro a W hG hR hO hp; have h1 := hO.slot 1 (by kernel_rfl); refine wp_yields (v := .pointer (some ⟨w.heap.size, 3, none⟩)) ?_ ⟨_, rfl, rfl, Below.refl _ _, hG⟩; simp [slotOf] at h1; simp [execOp, go_sem, h1]
  ·intro a W hG hR hO hp; have h9 : slotOf a 9 = .pointer (some ⟨w.heap.size, 3, none⟩) := hp.1; have c0 := keep_cell g3 hG; have c1 := keep_cell g4 hG; refine wp_yields (v := .agg #[vi g.klo, vi g.khi]) ?_ ⟨_, rfl, rfl, Below.refl _ _, hG⟩; simp [slotOf] at h9; simp [execOp, go_sem, h9, c0, c1]
  ·intro a W hG hR hO hp
   have h10 : slotOf a 10 = .agg #[vi g.klo, vi g.khi] := hp.1
   refine wp_enters (f := 41) (args := #[.agg #[vi g.klo, vi g.khi]]) ?_ ((to_anyW g.klo g.khi W).mono ?_)
   ·simp [slotOf] at h10
    simp [go_sem, h10]
   ·rintro e w' ⟨rfl, hb⟩
    exact ⟨_, rfl, _, rfl, rfl, hb, below_next hG hb⟩
  ·intro a W hG hR hO hp; have h1 := hO.slot 1 (by kernel_rfl); refine wp_yields (v := .pointer (some ⟨w.heap.size, 5, none⟩)) ?_ ⟨_, rfl, rfl, Below.refl _ _, hG⟩; simp [slotOf] at h1; simp [execOp, go_sem, h1]
  ·intro a W hG hR hO hp; have h12 : slotOf a 12 = .pointer (some ⟨w.heap.size, 5, none⟩) := hp.1; have c0 := keep_cell g5 hG; refine wp_yields (v := vi g.melt) ?_ ⟨_, rfl, rfl, Below.refl _ _, hG⟩; simp [slotOf] at h12; simp [execOp, go_sem, h12, c0]
  ·intro a W hG hR hO hp; have h8 : slotOf a 8 = .agg #[vi g.slo, vi g.shi] := hp.1; have h11 : slotOf a 11 = .agg #[vi g.klo, vi g.khi] := hp.2.1; have h13 : slotOf a 13 = vi g.melt := hp.2.2.1; refine wp_yields (v := .agg #[.slice none 0 0, vi g.slo, vi g.shi, vi g.klo, vi g.khi, vi g.melt]) ?_ ⟨_, rfl, rfl, Below.refl _ _, hG⟩; simp [slotOf] at h8 h11 h13; simp [execOp, go_sem, h8, h11, h13]
  ·intro a W hG hR hO hp; refine wp_makes (v := .pointer (some ⟨W.heap.size, 0, none⟩)) (W' := W.alloc (.cells #[.slice none 0 0, vi 0, vi 0, vi 0, vi 0, vi 0] 54)) ?_ ⟨_, rfl, ⟨_, rfl, hG.size, Whole.made _ _ _⟩, (Below.refl _ _).alloc (Nat.le_refl _) _, hG.alloc hG.size _⟩; skip; simp [execOp, go_sem]
 ·intro W hG hR
  rintro _ rfl _ rfl _ rfl _ rfl _ rfl _ rfl _ rfl _ rfl _ rfl _ ⟨ob, rfl, hob, hW1⟩
  change wpList _ _ _ _ _ _
  simp only [Act.put, List.setIfInBounds_toArray, List.set_cons_zero, List.set_cons_succ, List.drop_succ_cons, List.drop_zero]
  have o0 := hW1.at 0 rfl
  have o1 := hW1.at 1 rfl
  have o2 := hW1.at 2 rfl
  have o3 := hW1.at 3 rfl
  have o4 := hW1.at 4 rfl
  have o5 := hW1.at 5 rfl
  have p0 := hW1.free 0
  have p1 := hW1.free 1
  have p2 := hW1.free 2
  have p3 := hW1.free 3
  have p4 := hW1.free 4
  have p5 := hW1.free 5
  have HM : Hid (∀ W', W' = (((((W.setCell ⟨ob, 0, none⟩ (.slice none 0 0)).setCell ⟨ob, 1, none⟩ (vi g.slo)).setCell ⟨ob, 2, none⟩ (vi g.shi)).setCell ⟨ob, 3, none⟩ (vi g.klo)).setCell ⟨ob, 4, none⟩ (vi g.khi)).setCell ⟨ob, 5, none⟩ (vi g.melt) -> GrMid w (gndC A ap g) ob (.slice none 0 0) g W') := by
   rintro W' rfl
   obtain ⟨hbv, hgv, hrv⟩ := HV.out
   have hb := below_next hbv hG
   have hob : w.heap.size + 1 < ob := by omega
   have s : ∀ {X : World} {u : Value} {i : Nat}, Below w.heap.size w X -> Below w.heap.size w (X.setCell ⟨ob, i, none⟩ u) := fun h => h.setCell (p := ⟨ob, _, none⟩) (by dsimp only; omega) _
   have q : ∀ {X : World} {t : TypeId} {cs : Array Value} {u : Value} {i b : Nat}, b ≠ ob -> Whole X b t cs -> Whole (X.setCell ⟨ob, i, none⟩ u) b t cs := fun hne h => h.far hne _
   exact ⟨s (s (s (s (s (s hb))))), q (by omega) (q (by omega) (q (by omega) (q (by omega) (q (by omega) (q (by omega) (hgv.below hG hgv.lt)))))), q (by omega) (q (by omega) (q (by omega) (q (by omega) (q (by omega) (q (by omega) (hrv.below hG hrv.lt)))))), (((((hW1.set 0 _).set 1 _).set 2 _).set 3 _).set 4 _).set 5 _, hob⟩
  clear hW1 hG hR HV g1 g2 g3 g4 g5 hlv
  go_wp2_with fail
  go_loopw [4] (fun s4 wr => ∃ k : Nat, k <= g.cells.length /\ s4 = .int .i64 k /\ ∃ lv, GrMid w (gndC A ap g) ob lv g wr /\ wr.ownsRow w.heap.size 86 7 lv k ((g.cells.take k).flatMap cellL)) (fun s4 _ => g.cells.length - (intOf s4).toNat)
  case atStart => exact ⟨0, Nat.zero_le _, rfl, _, HM.out _ rfl, by simp, .inl ⟨rfl, rfl⟩⟩
  case round =>
   obtain ⟨k, hk, rfl, lv, hm, hown⟩ := hrel
   clear HM o0 o1 o2 o3 o4 o5 p0 p1 p2 p3 p4 p5
   have e0 := hm.gb.at 0 (v := .slice A g.cells.length ap) rfl
   by_cases hlt : k < g.cells.length
   ·obtain ⟨c, hck⟩ := get_of_lt hlt
    obtain ⟨b, off, rfl, hb, h0, h1, h2, h3, h4, h5, h6⟩ := row7 (HC.out.below hm.below) hck
    have hkn : (k : Int) < g.cells.length := by omega
    obtain ⟨cb, hcb⟩ : ∃ cb, cb = wr.heap.size := ⟨_, rfl⟩
    have HCK := Lib.hid hck
    have HG : Hid ((GrMid w (gndC (some ⟨b, off, none⟩) ap g) ob lv g (wr.alloc (.cells (cellC c) 115)) /\ (wr.alloc (.cells (cellC c) 115)).ownsRow w.heap.size 86 7 lv k ((g.cells.take k).flatMap cellL)) /\ Whole (wr.alloc (.cells (cellC c) 115)) wr.heap.size 115 (cellC c)) :=
     ⟨⟨hm.newer ((Below.refl _ _).alloc (Nat.le_refl _) _), own_below hown ((Below.refl _ _).alloc (Nat.le_refl _) _)⟩, Whole.made _ _ _⟩
    clear hm hown hck
    go_upto_region 6 with fail
    rw [<- hcb] at HG ⊢
    clear hcb h0 h1 h2 h3 h4 h5 h6 e0
    refine gen_world (fun W => (GrMid w (gndC (some ⟨b, off, none⟩) ap g) ob lv g W /\ W.ownsRow w.heap.size 86 7 lv k ((g.cells.take k).flatMap cellL)) /\ Whole W cb 115 (cellC c)) HG.out ?_
    rintro wv ⟨⟨hm, hown⟩, hcw⟩
    clear HG
    have e0 := hm.ot.at 0 rfl
    have c0 := hcw.at 0 rfl
    have c1 := hcw.at 1 rfl
    have c2 := hcw.at 2 rfl
    have c3 := hcw.at 3 rfl
    have c4 := hcw.at 4 rfl
    have c5 := hcw.at 5 rfl
    have c6 := hcw.at 6 rfl
    have HM := Lib.hid hm
    have HO := Lib.hid hown
    clear hm hown hcw
    refine wp_words (by kernel_rfl) (region_told 17 (by kernel_rfl) (by kernel_rfl) (fun W => Below wv.heap.size wv W) newer (pickD [vIs (.pointer (some ⟨ob, 0, none⟩)), vIs (lv), vIs (.pointer (some ⟨cb, 0, none⟩)), vIs (.agg #[vi c.lo, vi c.hi]), vIs (.agg #[vi c.lo, vi c.hi]), vIs (.pointer (some ⟨cb, 2, none⟩)), vIs (vi c.cap), vIs (.pointer (some ⟨cb, 3, none⟩)), vIs (vi c.keep), vIs (.pointer (some ⟨cb, 4, none⟩)), vIs (vi c.pass), vIs (.pointer (some ⟨cb, 5, none⟩)), vIs (vi c.tgt), vIs (.pointer (some ⟨cb, 6, none⟩)), vIs (vi c.pump), vIs (cellV c), vOne wv.heap.size 86 (cellC c)]) (fun h k => newer_trans h k) (pickD_stable _ ⟨vIs_st, vIs_st, vIs_st, vIs_st, vIs_st, vIs_st, vIs_st, vIs_st, vIs_st, vIs_st, vIs_st, vIs_st, vIs_st, vIs_st, vIs_st, vIs_st, vOne_st, trivial⟩) (Below.refl _ wv).drew (Below.refl _ _) ?_ ?_)
    ·refine ⟨?_, ?_, ?_, ?_, ?_, ?_, ?_, ?_, ?_, ?_, ?_, ?_, ?_, ?_, ?_, ?_, ?_, trivial⟩
     ·intro a W hG hR hO hp; have h3 := hO.slot 3 (by kernel_rfl); refine wp_yields (v := .pointer (some ⟨ob, 0, none⟩)) ?_ ⟨_, rfl, rfl, Below.refl _ _, hG⟩; simp [slotOf] at h3; simp [execOp, go_sem, h3]
     ·intro a W hG hR hO hp; have h27 : slotOf a 27 = .pointer (some ⟨ob, 0, none⟩) := hp.1; have d0 := keep_cell e0 hG; refine wp_yields (v := lv) ?_ ⟨_, rfl, rfl, Below.refl _ _, hG⟩; simp [slotOf] at h27; simp [execOp, go_sem, h27, d0]
     ·intro a W hG hR hO hp; have h5 := hO.slot 5 (by kernel_rfl); refine wp_yields (v := .pointer (some ⟨cb, 0, none⟩)) ?_ ⟨_, rfl, rfl, Below.refl _ _, hG⟩; simp [slotOf] at h5; simp [execOp, go_sem, h5]
     ·intro a W hG hR hO hp; have h29 : slotOf a 29 = .pointer (some ⟨cb, 0, none⟩) := hp.1; have d0 := keep_cell c0 hG; have d1 := keep_cell c1 hG; refine wp_yields (v := .agg #[vi c.lo, vi c.hi]) ?_ ⟨_, rfl, rfl, Below.refl _ _, hG⟩; simp [slotOf] at h29; simp [execOp, go_sem, h29, d0, d1]
     ·intro a W hG hR hO hp
      have h30 : slotOf a 30 = .agg #[vi c.lo, vi c.hi] := hp.1
      refine wp_enters (f := 41) (args := #[.agg #[vi c.lo, vi c.hi]]) ?_ ((to_anyW c.lo c.hi W).mono ?_)
      ·simp [slotOf] at h30
       simp [go_sem, h30]
      ·rintro e w' ⟨rfl, hb⟩
       exact ⟨_, rfl, _, rfl, rfl, hb, below_next hG hb⟩
     ·intro a W hG hR hO hp; have h5 := hO.slot 5 (by kernel_rfl); refine wp_yields (v := .pointer (some ⟨cb, 2, none⟩)) ?_ ⟨_, rfl, rfl, Below.refl _ _, hG⟩; simp [slotOf] at h5; simp [execOp, go_sem, h5]
     ·intro a W hG hR hO hp; have h32 : slotOf a 32 = .pointer (some ⟨cb, 2, none⟩) := hp.1; have d0 := keep_cell c2 hG; refine wp_yields (v := vi c.cap) ?_ ⟨_, rfl, rfl, Below.refl _ _, hG⟩; simp [slotOf] at h32; simp [execOp, go_sem, h32, d0]
     ·intro a W hG hR hO hp; have h5 := hO.slot 5 (by kernel_rfl); refine wp_yields (v := .pointer (some ⟨cb, 3, none⟩)) ?_ ⟨_, rfl, rfl, Below.refl _ _, hG⟩; simp [slotOf] at h5; simp [execOp, go_sem, h5]
     ·intro a W hG hR hO hp; have h34 : slotOf a 34 = .pointer (some ⟨cb, 3, none⟩) := hp.1; have d0 := keep_cell c3 hG; refine wp_yields (v := vi c.keep) ?_ ⟨_, rfl, rfl, Below.refl _ _, hG⟩; simp [slotOf] at h34; simp [execOp, go_sem, h34, d0]
     ·intro a W hG hR hO hp; have h5 := hO.slot 5 (by kernel_rfl); refine wp_yields (v := .pointer (some ⟨cb, 4, none⟩)) ?_ ⟨_, rfl, rfl, Below.refl _ _, hG⟩; simp [slotOf] at h5; simp [execOp, go_sem, h5]
     ·intro a W hG hR hO hp; have h36 : slotOf a 36 = .pointer (some ⟨cb, 4, none⟩) := hp.1; have d0 := keep_cell c4 hG; refine wp_yields (v := vi c.pass) ?_ ⟨_, rfl, rfl, Below.refl _ _, hG⟩; simp [slotOf] at h36; simp [execOp, go_sem, h36, d0]
     ·intro a W hG hR hO hp; have h5 := hO.slot 5 (by kernel_rfl); refine wp_yields (v := .pointer (some ⟨cb, 5, none⟩)) ?_ ⟨_, rfl, rfl, Below.refl _ _, hG⟩; simp [slotOf] at h5; simp [execOp, go_sem, h5]
     ·intro a W hG hR hO hp; have h38 : slotOf a 38 = .pointer (some ⟨cb, 5, none⟩) := hp.1; have d0 := keep_cell c5 hG; refine wp_yields (v := vi c.tgt) ?_ ⟨_, rfl, rfl, Below.refl _ _, hG⟩; simp [slotOf] at h38; simp [execOp, go_sem, h38, d0]
     ·intro a W hG hR hO hp; have h5 := hO.slot 5 (by kernel_rfl); refine wp_yields (v := .pointer (some ⟨cb, 6, none⟩)) ?_ ⟨_, rfl, rfl, Below.refl _ _, hG⟩; simp [slotOf] at h5; simp [execOp, go_sem, h5]
     ·intro a W hG hR hO hp; have h40 : slotOf a 40 = .pointer (some ⟨cb, 6, none⟩) := hp.1; have d0 := keep_cell c6 hG; refine wp_yields (v := vi c.pump) ?_ ⟨_, rfl, rfl, Below.refl _ _, hG⟩; simp [slotOf] at h40; simp [execOp, go_sem, h40, d0]
     ·intro a W hG hR hO hp; have h31 : slotOf a 31 = .agg #[vi c.lo, vi c.hi] := hp.1; have h33 : slotOf a 33 = vi c.cap := hp.2.1; have h35 : slotOf a 35 = vi c.keep := hp.2.2.1; have h37 : slotOf a 37 = vi c.pass := hp.2.2.2.1; have h39 : slotOf a 39 = vi c.tgt := hp.2.2.2.2.1; have h41 : slotOf a 41 = vi c.pump := hp.2.2.2.2.2.1; refine wp_yields (v := cellV c) ?_ ⟨_, rfl, rfl, Below.refl _ _, hG⟩; simp [slotOf] at h31 h33 h35 h37 h39 h41; simp [execOp, go_sem, h31, h33, h35, h37, h39, h41]
     ·intro a W hG hR hO hp; have h42 : slotOf a 42 = cellV c := hp.1; refine wp_makes (v := .slice (some ⟨W.heap.size, 0, none⟩) 1 1) (W' := W.alloc (.cells (cellC c) 86)) ?_ ⟨_, rfl, ⟨_, rfl, hG.size, Whole.made _ _ _⟩, (Below.refl _ _).alloc (Nat.le_refl _) _, hG.alloc hG.size _⟩; simp [slotOf] at h42; simp [execOp, go_sem, h42]
    ·intro W hG hR
     rintro _ rfl _ rfl _ rfl _ rfl _ rfl _ rfl _ rfl _ rfl _ rfl _ rfl _ rfl _ rfl _ rfl _ rfl _ rfl _ rfl _ ⟨nb1, rfl, hnb1, hW1⟩
     change wpList _ _ _ _ _ _
     simp only [Act.put, List.setIfInBounds_toArray, List.set_cons_zero, List.set_cons_succ, List.drop_succ_cons, List.drop_zero]
     have hm2 := (HM.out).newer hG
     have HO2 := Lib.hid (own_below HO.out hG)
     have HNW := Lib.hid (World.news_of_block hW1)
     have hbs := hm2.below.size
     have HM2 := Lib.hid hm2
     obtain ⟨hi0, hz0, hz1, hz2⟩ := HI.out
     clear hG hR hnb1 hW1 hm2 e0 c0 c1 c2 c3 c4 c5 c6 HM HO
     go_wp2_with (at_builtin; go_loud ((refine wpList_append_lies _ rfl (.tmp 28) (.tmp 43) 51 rfl w.heap.size 86 i99 (.agg #[.int .i64 0, .int .i64 0, .int .i64 0, .int .i64 0, .int .i64 0, .int .i64 0, .int .i64 0]) 7 56 Tryz.underlying51 hi0 hz0 hz1 hz2 rfl (by omega) _ k _ rfl HO2.out ⟨nb1, 0, none⟩ 1 1 (cellL c) rfl rfl HNW.out (by simp [Value.oneCell']) (by omega) (by unfold maxLen; omega) (by omega) hbs W.heap.size rfl ?_); intro gg cp2 w2 hown2 hgrow2 hat2 hlt2; rw [<- take_flat cellL g.cells k c HCK.out] at hown2; have hm3 := (HM2.out).grown HO2.out hgrow2; have x0 := hm3.ot.at 0 rfl; have f0 := hm3.ot.free 0; have HO3 := Lib.hid hown2; have HM3 := Lib.hid hm3; clear hm3 hown2 hgrow2 hat2 hi0 hz0 hz1 hz2))
     have hst := own_set HO3.out (g := ob) (i := 0) (own_ne HO3.out (HM3.out).ot (by decide)) (.slice (some ⟨gg, 0, none⟩) (k + 1) cp2)
     exact ⟨⟨k + 1, by omega, by push_cast; rfl, _, (HM3.out).set (.slice (some ⟨gg, 0, none⟩) (k + 1) cp2), hst⟩, by (simp only [intOf]; omega)⟩
   ·have hkn : k = g.cells.length := by omega
    subst hkn
    rw [List.take_of_length_le (Nat.le_refl _)] at hown
    obtain ⟨A2, c2, rfl⟩ := own_form hown
    have x0 := hm.ot.at 0 rfl
    have x1 := hm.ot.at 1 rfl
    have x2 := hm.ot.at 2 rfl
    have x3 := hm.ot.at 3 rfl
    have x4 := hm.ot.at 4 rfl
    have x5 := hm.ot.at 5 rfl
    have r0 := hm.rb.at 0 rfl
    have r1 := hm.rb.at 1 rfl
    have r2 := hm.rb.at 2 rfl
    have r3 := hm.rb.at 3 rfl
    have r4 := hm.rb.at 4 rfl
    have r5 := hm.rb.at 5 rfl
    have f0 := hm.rb.free 0
    have f1 := hm.rb.free 1
    have f2 := hm.rb.free 2
    have f3 := hm.rb.free 3
    have f4 := hm.rb.free 4
    have f5 := hm.rb.free 5
    have HM := Lib.hid hm
    have HO := Lib.hid hown
    clear hm hown
    go_wp2_with fail
    have hm := HM.out
    have c := (((((hm.rb.set 0 (.slice A2 g.cells.length c2)).set 1 (vi g.slo)).set 2 (vi g.shi)).set 3 (vi g.klo)).set 4 (vi g.khi)).set 5 (vi g.melt)
    have k0 := c.at 0 rfl
    have k1 := c.at 1 rfl
    have k2 := c.at 2 rfl
    have k3 := c.at 3 rfl
    have k4 := c.at 4 rfl
    have k5 := c.at 5 rfl
    have ne := own_ne HO.out hm.rb (by decide)
    have s : ∀ {X : World} {u : Value} {i : Nat}, Below w.heap.size w X -> Below w.heap.size w (X.setCell ⟨w.heap.size + 1, i, none⟩ u) := fun h => h.setCell (p := ⟨w.heap.size + 1, _, none⟩) (by dsimp only; omega) _
    have q : ∀ {X : World} {u : Value} {i : Nat}, X.ownsRow w.heap.size 86 7 (.slice A2 g.cells.length c2) g.cells.length (g.cells.flatMap cellL) -> (X.setCell ⟨w.heap.size + 1, i, none⟩ u).ownsRow w.heap.size 86 7 (.slice A2 g.cells.length c2) g.cells.length (g.cells.flatMap cellL) := fun h => own_set h ne _
    exact bodyPost_ret (v := gndV A2 c2 g) (by simp [results, Tryz.results13, go_sem, k0, k1, k2, k3, k4, k5]) rfl ⟨A2, c2, rfl, row_of_own (by omega) (fun _ => rfl) (q (q (q (q (q (q HO.out)))))), s (s (s (s (s (s hm.below)))))⟩
end

section
open Go.ChangeShapes Go.WideShapes Go.ChangeAt Go.RowKit Go.Deep
theorem Tryz.cells3W : Tryz.prog.cellsOf 3 = 1 := by kernel_rfl
theorem Tryz.cells25 : Tryz.prog.cellsOf 25 = 1 := by kernel_rfl
theorem Tryz.cells27 : Tryz.prog.cellsOf 27 = 2 := by kernel_rfl
theorem Tryz.cells29 : Tryz.prog.cellsOf 29 = 6 := by kernel_rfl
theorem Tryz.cells115 : Tryz.prog.cellsOf 115 = 7 := by kernel_rfl
theorem Tryz.cells84 : Tryz.prog.cellsOf 84 = 3 := by kernel_rfl
section
variable {H : Type} {enc : TypeId × Value -> H} {w : World} {base : Nat} {spare : Nat -> Bool} {held : Bool} {fuel : Nat} {cs : List Value} {x : DataW H × List MemPlace}
theorem range_cells (h : DataW.trod enc Tryz.prog w base spare held fuel 27 cs = some x) : ∃ a b, cs = [vi a, vi b] := by
 obtain ⟨xs, m, _, _, hlen, hxl, hg⟩ := DataW.trod_struct Tryz.underlying27 h
 rw [Tryz.cells27] at hlen
 obtain ⟨c0, c1, rfl⟩ := len2 hlen
 obtain ⟨y0, y1, rfl⟩ := len2 (show xs.length = 2 from hxl)
 have h0 := hg 0 _ rfl
 have h1 := hg 1 _ rfl
 simp [Tryz.cells3W] at h0 h1
 obtain ⟨a, ha, _⟩ := DataW.trod_int Tryz.underlying3 h0
 obtain ⟨b, hb, _⟩ := DataW.trod_int Tryz.underlying3 h1
 injection ha with ha
 injection hb with hb
 exact ⟨a, b, by rw [ha, hb]⟩
theorem day_cells (h : DataW.trod enc Tryz.prog w base spare held fuel 84 cs = some x) : ∃ d : Day, cs = dayL d := by
 obtain ⟨xs, m, _, _, hlen, hxl, hg⟩ := DataW.trod_struct Tryz.underlying84 h
 rw [Tryz.cells84] at hlen
 obtain ⟨c0, c1, c2, rfl⟩ := len3 hlen
 obtain ⟨y0, y1, rfl⟩ := len2 (show xs.length = 2 from hxl)
 have h0 := hg 0 _ rfl
 have h1 := hg 1 _ rfl
 simp [Tryz.cells3W, Tryz.cells27] at h0 h1
 obtain ⟨a, b, hab⟩ := range_cells h0
 obtain ⟨c, hc, _⟩ := DataW.trod_int Tryz.underlying3 h1
 injection hab with ha hb
 injection hb with hb
 injection hc with hc
 exact ⟨⟨a, b, c⟩, by rw [ha, hb, hc]⟩
theorem cell_cells (h : DataW.trod enc Tryz.prog w base spare held fuel 115 cs = some x) : ∃ c : Cell, cs = cellL c := by
 obtain ⟨xs, m, _, _, hlen, hxl, hg⟩ := DataW.trod_struct Tryz.underlying115 h
 rw [Tryz.cells115] at hlen
 obtain ⟨c0, c1, c2, c3, c4, c5, c6, rfl⟩ := len7 hlen
 obtain ⟨y0, y1, y2, y3, y4, y5, rfl⟩ := len6 (show xs.length = 6 from hxl)
 have h0 := hg 0 _ rfl
 have h1 := hg 1 _ rfl
 have h2 := hg 2 _ rfl
 have h3 := hg 3 _ rfl
 have h4 := hg 4 _ rfl
 have h5 := hg 5 _ rfl
 simp [Tryz.cells3W, Tryz.cells27] at h0 h1 h2 h3 h4 h5
 obtain ⟨a, b, hab⟩ := range_cells h0
 obtain ⟨z1, e1, _⟩ := DataW.trod_int Tryz.underlying3 h1
 obtain ⟨z2, e2, _⟩ := DataW.trod_int Tryz.underlying3 h2
 obtain ⟨z3, e3, _⟩ := DataW.trod_int Tryz.underlying3 h3
 obtain ⟨z4, e4, _⟩ := DataW.trod_int Tryz.underlying3 h4
 obtain ⟨z5, e5, _⟩ := DataW.trod_int Tryz.underlying3 h5
 injection hab with ha hb
 injection hb with hb
 injection e1 with e1
 injection e2 with e2
 injection e3 with e3
 injection e4 with e4
 injection e5 with e5
 exact ⟨⟨a, b, z1, z2, z3, z4, z5⟩, by rw [ha, hb, e1, e2, e3, e4, e5]⟩
theorem open_row {α : Type} {ec : α -> List Value} {t e s : Nat} (ht : Tryz.prog.underlying t = some (.slice e)) (hC : Tryz.prog.cellsOf e = s) (he : ∀ y, (ec y).length = s) (hs : 0 < s)
  (hel : ∀ {fuel : Nat} {cs : List Value} {x : DataW H × List MemPlace}, DataW.trod enc Tryz.prog w base spare held fuel e cs = some x -> ∃ y, cs = ec y)
  (h : DataW.trod enc Tryz.prog w base spare held fuel t cs = some x) : ∃ (A : Option Addr) (l : List α) (cp : Nat), cs = [.slice A l.length cp] /\ l.length <= maxLen /\ Row ec s w w.heap.size A l := by
 rcases open_slice ht h with ⟨rfl, _⟩ | ⟨a, len, cap, m, n, D, Pl, rfl, hb, hl, hm, hmm, _, hi⟩
 ·exact ⟨none, [], 0, rfl, Nat.zero_le _, Row.nil _⟩
 ·have hlm : len <= m := by rw [hmm]; split <;> omega
  obtain ⟨b, off, sp⟩ := a
  rcases Nat.eq_zero_or_pos len with rfl | hpos
  ·exact ⟨_, [], cap, rfl, Nat.zero_le _, Row.nil _⟩
  ·have hex : ∀ i, ∃ y : α, i < len -> w.cells? base ((⟨b, off, sp⟩ : Addr).add (i * s)) s = some (ec y) := by
    intro i
    by_cases hi2 : i < len
    ·obtain ⟨cs', hc, ht'⟩ := hi i (by omega)
     obtain ⟨y, rfl⟩ := hel ht'
     rw [hC] at hc
     exact ⟨y, fun _ => hc⟩
    ·obtain ⟨cs', hc, ht'⟩ := hi 0 (by omega)
     obtain ⟨y, rfl⟩ := hel ht'
     exact ⟨y, fun h => absurd h hi2⟩
   obtain ⟨f, hf⟩ := Classical.axiomOfChoice hex
   have hcell : ∀ i, i < len -> ∀ j v, (ec (f i))[j]? = some v -> w.cell? (((⟨b, off, sp⟩ : Addr).add (i * s)).add j) = some v := by
    intro i hi2 j v hv
    obtain ⟨_, _, h3⟩ := World.cells?_some (hf i hi2)
    have hj : j < s := by rw [<- he (f i)]; exact (List.getElem?_eq_some_iff.1 hv).1
    rw [h3 j hj, hv]
   have hsp : sp = none := by
    obtain ⟨u, hv⟩ := get_of_lt (l := ec (f 0)) (k := 0) (by rw [he]; exact hs)
    have := hcell 0 hpos 0 _ hv
    simp only [Nat.zero_mul, Addr.add, if_true] at this
    unfold World.cell? at this
    cases sp with
    | none => rfl
    | some q =>
     exfalso
     dsimp only at this
     split at this
     ·simp at this
     ·cases this
   subst hsp
   refine ⟨_, (List.range len).map f, cap, by rw [List.length_map, List.length_range], by rw [List.length_map, List.length_range]; exact Nat.le_trans hl hm, fun _ => ⟨b, off, rfl, ?_, fun k x hk j v hv => ?_⟩⟩
   ·obtain ⟨u, hv⟩ := get_of_lt (l := ec (f 0)) (k := 0) (by rw [he]; exact hs)
    have := World.block_lt_of_cell? w _ (hcell 0 hpos 0 _ hv)
    simpa [Addr.add] using this
   ·rw [List.getElem?_map] at hk
    obtain ⟨i, hi3, rfl⟩ := Option.map_eq_some_iff.1 hk
    obtain ⟨hkl, hki⟩ := List.getElem?_eq_some_iff.1 hi3
    rw [List.getElem_range] at hki
    subst hki
    have := hcell k (by simpa using hkl) j v hv
    rw [Go.Deep.add_add, add_row] at this
    rw [Nat.add_assoc]
    exact this
theorem ground_open (h : DataW.trod enc Tryz.prog w base spare held fuel 29 cs = some x) : ∃ (g : Gnd) (A : Option Addr) (cp : Nat), cs = [.slice A g.cells.length cp, vi g.slo, vi g.shi, vi g.klo, vi g.khi, vi g.melt] /\ g.cells.length <= maxLen /\ Row cellL 7 w w.heap.size A g.cells := by
 obtain ⟨xs, m, _, _, hlen, hxl, hg⟩ := DataW.trod_struct Tryz.underlying29 h
 rw [Tryz.cells29] at hlen
 obtain ⟨c0, c1, c2, c3, c4, c5, rfl⟩ := len6 hlen
 obtain ⟨y0, y1, y2, y3, rfl⟩ := len4 (show xs.length = 4 from hxl)
 have h0 := hg 0 _ rfl
 have h1 := hg 1 _ rfl
 have h2 := hg 2 _ rfl
 have h3 := hg 3 _ rfl
 simp [Tryz.cells3W, Tryz.cells27, Tryz.cells25] at h0 h1 h2 h3
 obtain ⟨A, l, cp, e0, hl, hrow⟩ := open_row (ec := cellL) Tryz.underlying25 Tryz.cells115 (fun _ => rfl) (by omega) cell_cells h0
 obtain ⟨a1, b1, e1⟩ := range_cells h1
 obtain ⟨a2, b2, e2⟩ := range_cells h2
 obtain ⟨z3, e3, _⟩ := DataW.trod_int Tryz.underlying3 h3
 injection e0 with e0
 injection e1 with e1 e1'
 injection e1' with e1'
 injection e2 with e2 e2'
 injection e2' with e2'
 injection e3 with e3
 exact ⟨⟨l, a1, b1, a2, b2, z3⟩, A, cp, by rw [e0, e1, e1', e2, e2', e3], hl, hrow⟩
theorem days_open (h : DataW.trod enc Tryz.prog w base spare held fuel 30 cs = some x) : ∃ (D : Option Addr) (days : List Day) (dp : Nat), cs = [.slice D days.length dp] /\ days.length <= maxLen /\ Row dayL 3 w w.heap.size D days :=
 open_row (ec := dayL) Tryz.underlying30 Tryz.cells84 (fun _ => rfl) (by omega) day_cells h
end
end

section
open Go.RowKit
theorem wp_append_list {w : World} {o : Oper} {a : Act} {K : Act -> World -> Prop} {Q : Exit -> Act -> World -> Prop} (s x : Operand)
  (ho : o.op = .call { callee := .builtin .append, args := #[s, x], argTypes := #[60, 60] }) (nb : Nat) (hs : a.eval s = .slice (some ⟨nb, 0, none⟩) 0 0)
  (l : List Int) (A : Option Addr) (cp : Nat) (hx : a.eval x = .slice A l.length cp) (hl : l.length <= 1000) (hr : Row intL 1 w w.heap.size A l)
  (h : ∀ B c w', Row intL 1 w' w'.heap.size (some B) l -> Below w.heap.size w w' -> (B.block = nb ∨ w.heap.size <= B.block) -> K (a.put o.dst (.slice (some B) l.length c)) w') : Oper.wp Tryz.prog o a w K Q := by
 obtain ⟨i0, hi0, hz0, hz1, hz2⟩ := info_parts Tryz.info3
 rcases Nat.eq_zero_or_pos l.length with h0 | hpos
 ·obtain rfl : l = [] := List.eq_nil_of_length_eq_zero h0
  have hrun : (Builtin.append_ #[60, 60] o.type #[.slice (some ⟨nb, 0, none⟩) 0 0, .slice A 0 cp]).run Tryz.prog w = .ok (.slice (some ⟨nb, 0, none⟩) 0 0) w := by
   have hu := run_underlying (P := Tryz.prog) (w := w) Tryz.underlying60
   rcases A with _ | ad <;> simp [Builtin.append_, hu, sizeOf, typeInfo, hi0, Builtin.lenOf, Builtin.firstCells, loadCells, loadCellsFrom, storeCells]
  unfold Oper.wp
  simp [execOp, ho, resolve, invoke, builtin, hs, hx, hrun, Result.andThen]
  exact h _ _ w (Row.nil _) (Below.refl _ _) (.inl rfl)
 ·obtain ⟨b, off, rfl, hb, hc⟩ := hr (by intro e; rw [e] at hpos; simp at hpos)
  refine wp_append_new s x 60 ho 3 i0 (.int .i64 0) 1 8 Tryz.underlying60 hi0 hz0 hz1 hz2 rfl (by omega) ⟨nb, 0, none⟩ hs ⟨b, off, none⟩ l.length cp (l.flatMap intL) hx (by rw [flat_len (enc := intL) (s := 1) (fun _ => rfl)]) (row_news (enc := intL) (s := 1) (by omega) (fun _ => rfl) hr) hpos (by unfold maxLen; omega) (by omega) ?_
  intro gg cap w' hown hbl
  exact h _ _ w' (row_of_own (by omega) (fun _ => rfl) hown) hbl (.inr (own_ge_slice hown))
theorem wpList_append_list {w : World} {ops : Array Oper} {rest : List Oper} {o : Oper} {a : Act} {Q : Exit -> Act -> World -> Prop} (hgd : o.guard = none) (s x : Operand)
  (ho : o.op = .call { callee := .builtin .append, args := #[s, x], argTypes := #[60, 60] }) (nb : Nat) (hs : a.eval s = .slice (some ⟨nb, 0, none⟩) 0 0)
  (l : List Int) (A : Option Addr) (cp : Nat) (hx : a.eval x = .slice A l.length cp) (hl : l.length <= 1000) (hr : Row intL 1 w w.heap.size A l)
  (h : ∀ B c w', Row intL 1 w' w'.heap.size (some B) l -> Below w.heap.size w w' -> (B.block = nb ∨ w.heap.size <= B.block) -> wpList Tryz.prog ops Q rest (a.put o.dst (.slice (some B) l.length c)) w') : wpList Tryz.prog ops Q (o :: rest) a w :=
 wpList_plain hgd fun _ hK => wp_append_list s x ho nb hs l A cp hx hl hr fun B c w' h1 h2 h3 => hK _ _ (h B c w' h1 h2 h3)
theorem slice43_some (b off n cp : Nat) (w : World) : (binOp .eql 60 (.slice (some ⟨b, off, none⟩) n cp) (.slice none 0 0)).run Tryz.prog w = .ok (.bool false) w := by
 simp only [binOp]
 simp [run_equal_slice_nil w 60 3 (some ⟨b, off, none⟩) n cp Tryz.underlying60]
set_option maxRecDepth 100000 in
set_option maxHeartbeats 1000000 in
theorem lawListW (l : List Int) (A : Option Addr) (cp : Nat) (w : World) (hl : l.length <= 1000) (hr : Row intL 1 w w.heap.size A l) : Calls Tryz.prog 46 #[.slice A l.length cp] w (copied w l) := by
 have HR := Lib.hid (row_alloc hr (.cells #[] 3))
 clear hr
 go_enter Tryz.func46, Tryz.ntmps46
 go_wp2_with (at_builtin; go_loud ((refine wpList_append_list rfl (.tmp 3) (.tmp 4) rfl w.heap.size rfl l A cp rfl hl HR.out ?_); intro B c w' hB hb hge; have HB := Lib.hid (And.intro hB (And.intro ((((Below.refl w.heap.size w).alloc (Nat.le_refl _) (.cells #[] 3))).trans (hb.mono (by simp))) (show w.heap.size <= B.block by simp at hge; omega))); clear hB hb hge))
 go_ret
 exact ⟨_, c, rfl, HB.out.1, HB.out.2.1, fun a e => by cases e; exact HB.out.2.2⟩
set_option maxRecDepth 100000 in
set_option maxHeartbeats 1000000 in
theorem clone_any (l : List Int) (b off : Nat) (cp : Nat) (w : World) (hl : l.length <= 1000) (hr : Row intL 1 w w.heap.size (some ⟨b, off, none⟩) l) : Calls Tryz.prog 70 #[.slice (some ⟨b, off, none⟩) l.length cp] w (copied w l) := by
 have HR := Lib.hid (row_alloc hr (.cells #[] 3))
 clear hr
 have hnil := fun W => slice43_some b off l.length cp W
 go_enter Tryz.func70, Tryz.ntmps70
 go_wp2_with (at_builtin; go_loud ((refine wpList_append_list rfl (.tmp 5) (.tmp 6) rfl w.heap.size rfl l (some ⟨b, off, none⟩) cp rfl hl HR.out ?_); intro B2 c w' hB hb hge; have HB := Lib.hid (And.intro hB (And.intro ((((Below.refl w.heap.size w).alloc (Nat.le_refl _) (.cells #[] 3))).trans (hb.mono (by simp))) (show w.heap.size <= B2.block by simp at hge; omega))); clear hB hb hge))
 go_ret
 exact ⟨_, c, rfl, HB.out.1, HB.out.2.1, fun a e => by cases e; exact HB.out.2.2⟩
set_option maxRecDepth 100000 in
set_option maxHeartbeats 1000000 in
theorem lawTruthW (snow soak : Int) (lv rn : List Int) (L : Option Addr) (lp : Nat) (R : Option Addr) (rp : Nat) (w : World) (hl : lv.length <= 1000) (hr : rn.length <= 1000) (hL : Row intL 1 w w.heap.size L lv) (hR : Row intL 1 w w.heap.size R rn) :
  Calls Tryz.prog 17 #[truthV snow soak L lv.length lp R rn.length rp] w (truthOut w snow soak lv rn) := by
 have HL := Lib.hid hL
 have HR := Lib.hid hR
 clear hL hR
 go_enter Tryz.func17, Tryz.ntmps17
 go_wp2_with fail
 refine genQ (fun W => Below w.heap.size w W /\ Whole W w.heap.size 66 #[vi snow, vi soak, .slice L lv.length lp, .slice R rn.length rp] /\ Whole W (w.heap.size + 1) 64 #[vi 0, vi 0, .slice none 0 0, .slice none 0 0]) ⟨((Below.refl _ _).alloc (Nat.le_refl _) _).alloc (by simp) _, (Whole.made w 66 _).alloc _, ?_⟩ ?_
 ·have := Whole.made (w.alloc (.cells #[vi snow, vi soak, .slice L lv.length lp, .slice R rn.length rp] 66)) 64 #[vi 0, vi 0, .slice none 0 0, .slice none 0 0]
  rw [World.size_alloc] at this
  exact this
 rintro wv ⟨hbv, htv, hov⟩
 have t0' := htv.at 0 rfl
 have t1' := htv.at 1 rfl
 have t2' := htv.at 2 rfl
 have t3' := htv.at 3 rfl
 have HQ := Lib.hid (And.intro hbv hov)
 have HLW := Lib.hid hov.lt
 have HRL := Lib.hid (And.intro ((HL.out.below hbv).more hbv.size) ((HR.out.below hbv).more hbv.size))
 clear hbv htv hov HL HR
 refine wp_words (by kernel_rfl) (region_told 11 (by kernel_rfl) (by kernel_rfl) (fun W => Below wv.heap.size wv W) newer (pickD [vIs (.pointer (some ⟨w.heap.size, 0, none⟩)), vIs (vi snow), vIs (.pointer (some ⟨w.heap.size, 1, none⟩)), vIs (vi soak), vIs (.pointer (some ⟨w.heap.size, 2, none⟩)), vIs (.slice L lv.length lp), vCp wv.heap.size lv, vIs (.pointer (some ⟨w.heap.size, 3, none⟩)), vIs (.slice R rn.length rp), vCp wv.heap.size rn, vTrH wv.heap.size snow soak lv rn]) (fun h k => newer_trans h k) (pickD_stable _ ⟨vIs_st, vIs_st, vIs_st, vIs_st, vIs_st, vIs_st, vCp_st, vIs_st, vIs_st, vCp_st, vTrH_st, trivial⟩) (Below.refl _ wv).drew (Below.refl _ _) ?_ ?_)
 ·refine ⟨?_, ?_, ?_, ?_, ?_, ?_, ?_, ?_, ?_, ?_, ?_, trivial⟩
  ·intro a W hG hR hO hp; have h1 := hO.slot 1 (by kernel_rfl); refine wp_yields (v := .pointer (some ⟨w.heap.size, 0, none⟩)) ?_ ⟨_, rfl, rfl, Below.refl _ _, hG⟩; simp [slotOf] at h1; simp [execOp, go_sem, h1]
  ·intro a W hG hR hO hp; have h3 : slotOf a 3 = .pointer (some ⟨w.heap.size, 0, none⟩) := hp.1; have c0 := keep_cell t0' hG; refine wp_yields (v := vi snow) ?_ ⟨_, rfl, rfl, Below.refl _ _, hG⟩; simp [slotOf] at h3; simp [execOp, go_sem, h3, c0]
  ·intro a W hG hR hO hp; have h1 := hO.slot 1 (by kernel_rfl); refine wp_yields (v := .pointer (some ⟨w.heap.size, 1, none⟩)) ?_ ⟨_, rfl, rfl, Below.refl _ _, hG⟩; simp [slotOf] at h1; simp [execOp, go_sem, h1]
  ·intro a W hG hR hO hp; have h5 : slotOf a 5 = .pointer (some ⟨w.heap.size, 1, none⟩) := hp.1; have c0 := keep_cell t1' hG; refine wp_yields (v := vi soak) ?_ ⟨_, rfl, rfl, Below.refl _ _, hG⟩; simp [slotOf] at h5; simp [execOp, go_sem, h5, c0]
  ·intro a W hG hR hO hp; have h1 := hO.slot 1 (by kernel_rfl); refine wp_yields (v := .pointer (some ⟨w.heap.size, 2, none⟩)) ?_ ⟨_, rfl, rfl, Below.refl _ _, hG⟩; simp [slotOf] at h1; simp [execOp, go_sem, h1]
  ·intro a W hG hR hO hp; have h7 : slotOf a 7 = .pointer (some ⟨w.heap.size, 2, none⟩) := hp.1; have c0 := keep_cell t2' hG; refine wp_yields (v := .slice L lv.length lp) ?_ ⟨_, rfl, rfl, Below.refl _ _, hG⟩; simp [slotOf] at h7; simp [execOp, go_sem, h7, c0]
  ·intro a W hG hR hO hp
   have h8 : slotOf a 8 = .slice L lv.length lp := hp.1
   refine wp_enters (f := 46) (args := #[.slice L lv.length lp]) ?_ ((lawListW lv L lp W (by omega) ((HRL.out.1.below hG).more hG.size)).mono ?_)
   ·simp [slotOf] at h8
    simp [go_sem, h8]
   ·rintro e w' ⟨Ax, cx, rfl, hr2, hb, hge⟩
    exact ⟨_, rfl, _, rfl, ⟨Ax, cx, rfl, hr2, fun a e => Nat.le_trans hG.size (hge a e)⟩, hb, below_next hG hb⟩
  ·intro a W hG hR hO hp; have h1 := hO.slot 1 (by kernel_rfl); refine wp_yields (v := .pointer (some ⟨w.heap.size, 3, none⟩)) ?_ ⟨_, rfl, rfl, Below.refl _ _, hG⟩; simp [slotOf] at h1; simp [execOp, go_sem, h1]
  ·intro a W hG hR hO hp; have h10 : slotOf a 10 = .pointer (some ⟨w.heap.size, 3, none⟩) := hp.1; have c0 := keep_cell t3' hG; refine wp_yields (v := .slice R rn.length rp) ?_ ⟨_, rfl, rfl, Below.refl _ _, hG⟩; simp [slotOf] at h10; simp [execOp, go_sem, h10, c0]
  ·intro a W hG hR hO hp
   have h11 : slotOf a 11 = .slice R rn.length rp := hp.1
   refine wp_enters (f := 46) (args := #[.slice R rn.length rp]) ?_ ((lawListW rn R rp W (by omega) ((HRL.out.2.below hG).more hG.size)).mono ?_)
   ·simp [slotOf] at h11
    simp [go_sem, h11]
   ·rintro e w' ⟨Ax, cx, rfl, hr2, hb, hge⟩
    exact ⟨_, rfl, _, rfl, ⟨Ax, cx, rfl, hr2, fun a e => Nat.le_trans hG.size (hge a e)⟩, hb, below_next hG hb⟩
  ·intro a W hG hR hO hp; have h4 : slotOf a 4 = vi snow := hp.1; have h6 : slotOf a 6 = vi soak := hp.2.1; have h9 := hp.2.2.1; have h12 := hp.2.2.2.1; obtain ⟨La, lpa, h9, hra, hga⟩ := h9; obtain ⟨Ra, rpa, h12, hrb, hgb⟩ := h12; refine wp_yields (v := truthV snow soak La lv.length lpa Ra rn.length rpa) ?_ ⟨_, rfl, ⟨La, lpa, Ra, rpa, rfl, ⟨hra, hga⟩, hrb, hgb⟩, Below.refl _ _, hG⟩; simp [slotOf] at h4 h6 h9 h12; simp [execOp, go_sem, h4, h6, h9, h12]
 ·intro W hG hR
  rintro _ rfl _ rfl _ rfl _ rfl _ rfl _ rfl _ ⟨_, _, rfl, _, _⟩ _ rfl _ rfl _ ⟨_, _, rfl, _, _⟩ _ ⟨L2, lp2, R2, rp2, rfl, hrl, hrr⟩
  change wpList _ _ _ _ _ _
  simp only [Act.put, List.setIfInBounds_toArray, List.set_cons_zero, List.set_cons_succ, List.drop_succ_cons, List.drop_zero]
  have hov := (HQ.out.2).below hG (HQ.out.2).lt
  have r0 := hov.at 0 rfl
  have r1 := hov.at 1 rfl
  have r2 := hov.at 2 rfl
  have r3 := hov.at 3 rfl
  have f0 := hov.free 0
  have f1 := hov.free 1
  have f2 := hov.free 2
  have f3 := hov.free 3
  have HX := Lib.hid (And.intro (below_next HQ.out.1 hG) (And.intro hov (And.intro hrl hrr)))
  clear hG hR hrl hrr hov HQ HRL t0' t1' t2' t3'
  go_wp2_with fail
  have c := (((HX.out.2.1.set 0 (vi snow)).set 1 (vi soak)).set 2 (.slice L2 lv.length lp2)).set 3 (.slice R2 rn.length rp2)
  have k0 := c.at 0 rfl
  have k1 := c.at 1 rfl
  have k2 := c.at 2 rfl
  have k3 := c.at 3 rfl
  have s : ∀ {X : World} {u : Value} {i : Nat}, Below w.heap.size w X -> Below w.heap.size w (X.setCell ⟨w.heap.size + 1, i, none⟩ u) := fun h => h.setCell (p := ⟨w.heap.size + 1, _, none⟩) (by dsimp only; omega) _
  have hlw := HX.out.2.1.lt
  have hlv : w.heap.size + 1 < wv.heap.size := HLW.out
  have q1 : ∀ a, L2 = some a -> a.block ≠ w.heap.size + 1 := fun a e => by have := HX.out.2.2.1.2 a e; omega
  have q2 : ∀ a, R2 = some a -> a.block ≠ w.heap.size + 1 := fun a e => by have := HX.out.2.2.2.2 a e; omega
  exact bodyPost_ret (v := truthV snow soak L2 lv.length lp2 R2 rn.length rp2) (by simp [results, Tryz.results17, go_sem, k0, k1, k2, k3]) rfl ⟨⟨_, rfl, L2, lp2, R2, rp2, rfl, row_set (row_set (row_set (row_set HX.out.2.2.1.1 _ _ q1) _ _ q1) _ _ q1) _ _ q1, row_set (row_set (row_set (row_set HX.out.2.2.2.1 _ _ q2) _ _ q2) _ _ q2) _ _ q2⟩, s (s (s (s HX.out.1)))⟩
set_option maxRecDepth 100000 in
set_option maxHeartbeats 1000000 in
theorem now_any (s : Way) (f : Nat -> Int) (snow left : Int) (b : Nat) (w : World) (h : OnWay w b s f snow left) (h8 : s.l.length <= 8) :
  Calls Tryz.prog 45 #[.pointer (some ⟨b, 0, none⟩)] w (copied w ((List.range s.l.length).map f)) := by
 have c0' := h.blk.at 0 (v := .slice s.A s.l.length s.ap) rfl
 have hrow : Row intL 1 w w.heap.size (some ⟨b, 11, none⟩) ((List.range s.l.length).map f) := fun _ => by
  refine ⟨b, 11, rfl, h.blk.lt, fun k x hk j v hv => ?_⟩
  rw [List.getElem?_map] at hk
  obtain ⟨i, hi, rfl⟩ := Option.map_eq_some_iff.1 hk
  obtain ⟨hkl, hki⟩ := List.getElem?_eq_some_iff.1 hi
  rw [List.getElem_range] at hki
  subst hki
  have hk8 : k < s.l.length := by simpa using hkl
  match j, hv with
  | 0, hv =>
   simp at hv
   subst hv
   rw [Nat.mul_one, Nat.add_zero]
   exact h.blk.at (11 + k) (wayCs_level s f snow left (by omega))
  | j + 1, hv => simp at hv
 have HR := Lib.hid hrow
 clear h hrow
 obtain ⟨l, A, ap, slo, shi, klo, khi, melt, days, D, dp, tsnow, soak, levels, L, lp, rain, R, rp⟩ := s
 dsimp only at h8 c0' HR ⊢
 obtain ⟨n, hn⟩ : ∃ n, n = l.length := ⟨_, rfl⟩
 rw [<- hn] at h8 c0' HR ⊢
 clear hn
 have hn8 : (n : Int) <= 8 := by omega
 go_enter Tryz.func45, Tryz.ntmps45
 go_wp2_with fail
 refine wp_words (by kernel_rfl) (region_told 11 (by kernel_rfl) (by kernel_rfl) (fun W => Below w.heap.size w W) newer (pickD [vIs (.pointer (some ⟨b, 0, none⟩)), vIs (.pointer (some ⟨b, 0, none⟩)), vIs (.pointer (some ⟨b, 11, none⟩)), vIs (.pointer (some ⟨b, 0, none⟩)), vIs (.pointer (some ⟨b, 0, none⟩)), vIs (.pointer (some ⟨b, 0, none⟩)), vIs (.pointer (some ⟨b, 0, none⟩)), vIs (.slice A n ap), vIs (.int .i64 n), vIs (.slice (some ⟨b, 11, none⟩) n 8), vCp w.heap.size ((List.range n).map f)]) (fun h k => newer_trans h k) (pickD_stable _ ⟨vIs_st, vIs_st, vIs_st, vIs_st, vIs_st, vIs_st, vIs_st, vIs_st, vIs_st, vIs_st, vCp_st, trivial⟩) (Below.refl _ w).drew (Below.refl _ _) ?_ ?_)
 ·refine ⟨?_, ?_, ?_, ?_, ?_, ?_, ?_, ?_, ?_, ?_, ?_, trivial⟩
  ·intro a W hG hR hO hp; have h0 := hO.slot 0 (by kernel_rfl); refine wp_yields (v := .pointer (some ⟨b, 0, none⟩)) ?_ ⟨_, rfl, rfl, Below.refl _ _, hG⟩; simp [slotOf] at h0; simp [execOp, go_sem, h0]
  ·intro a W hG hR hO hp; have h3 : slotOf a 3 = .pointer (some ⟨b, 0, none⟩) := hp.1; refine wp_yields (v := .pointer (some ⟨b, 0, none⟩)) ?_ ⟨_, rfl, rfl, Below.refl _ _, hG⟩; simp [slotOf] at h3; simp [execOp, go_sem, h3]
  ·intro a W hG hR hO hp; have h4 : slotOf a 4 = .pointer (some ⟨b, 0, none⟩) := hp.1; refine wp_yields (v := .pointer (some ⟨b, 11, none⟩)) ?_ ⟨_, rfl, rfl, Below.refl _ _, hG⟩; simp [slotOf] at h4; simp [execOp, go_sem, h4]
  ·intro a W hG hR hO hp; have h0 := hO.slot 0 (by kernel_rfl); refine wp_yields (v := .pointer (some ⟨b, 0, none⟩)) ?_ ⟨_, rfl, rfl, Below.refl _ _, hG⟩; simp [slotOf] at h0; simp [execOp, go_sem, h0]
  ·intro a W hG hR hO hp; have h6 : slotOf a 6 = .pointer (some ⟨b, 0, none⟩) := hp.1; refine wp_yields (v := .pointer (some ⟨b, 0, none⟩)) ?_ ⟨_, rfl, rfl, Below.refl _ _, hG⟩; simp [slotOf] at h6; simp [execOp, go_sem, h6]
  ·intro a W hG hR hO hp; have h7 : slotOf a 7 = .pointer (some ⟨b, 0, none⟩) := hp.1; refine wp_yields (v := .pointer (some ⟨b, 0, none⟩)) ?_ ⟨_, rfl, rfl, Below.refl _ _, hG⟩; simp [slotOf] at h7; simp [execOp, go_sem, h7]
  ·intro a W hG hR hO hp; have h8 : slotOf a 8 = .pointer (some ⟨b, 0, none⟩) := hp.1; refine wp_yields (v := .pointer (some ⟨b, 0, none⟩)) ?_ ⟨_, rfl, rfl, Below.refl _ _, hG⟩; simp [slotOf] at h8; simp [execOp, go_sem, h8]
  ·intro a W hG hR hO hp; have h9 : slotOf a 9 = .pointer (some ⟨b, 0, none⟩) := hp.1; have c0 := keep_cell c0' hG; refine wp_yields (v := .slice A n ap) ?_ ⟨_, rfl, rfl, Below.refl _ _, hG⟩; simp [slotOf] at h9; simp [execOp, go_sem, h9, c0]
  ·intro a W hG hR hO hp; have h10 : slotOf a 10 = .slice A n ap := hp.1; refine wp_yields (v := .int .i64 n) ?_ ⟨_, rfl, rfl, Below.refl _ _, hG⟩; simp [slotOf] at h10; simp [go_sem, h10]
  ·intro a W hG hR hO hp; have h5 : slotOf a 5 = .pointer (some ⟨b, 11, none⟩) := hp.1; have h11 : slotOf a 11 = .int .i64 n := hp.2.1; refine wp_yields (v := .slice (some ⟨b, 11, none⟩) n 8) ?_ ⟨_, rfl, rfl, Below.refl _ _, hG⟩; simp [slotOf] at h5 h11; simp [execOp, go_sem, h5, h11, hn8]
  ·intro a W hG hR hO hp
   have h12 : slotOf a 12 = .slice (some ⟨b, 11, none⟩) n 8 := hp.1
   have hcl := clone_any ((List.range n).map f) b 11 8 W (by simp; omega) ((HR.out.below hG).more hG.size)
   rw [show ((List.range n).map f).length = n by simp] at hcl
   refine wp_enters (f := 70) (args := #[.slice (some ⟨b, 11, none⟩) n 8]) ?_ (hcl.mono ?_)
   ·simp [slotOf] at h12
    simp [go_sem, h12]
   ·rintro e w' ⟨Ax, cx, rfl, hr2, hb, hge⟩
    exact ⟨_, rfl, _, rfl, ⟨Ax, cx, by simp, hr2, fun a e => Nat.le_trans hG.size (hge a e)⟩, hb, below_next hG hb⟩
 ·intro W hG hR
  rintro _ rfl _ rfl _ rfl _ rfl _ rfl _ rfl _ rfl _ rfl _ rfl _ rfl _ ⟨A2, c2, rfl, hrx, hge⟩
  change wpList _ _ _ _ _ _
  simp only [Act.put, List.setIfInBounds_toArray, List.set_cons_zero, List.set_cons_succ, List.drop_succ_cons, List.drop_zero]
  have HX := Lib.hid (And.intro hG (And.intro hrx hge))
  clear hG hR hrx hge c0'
  go_wp2_with fail
  go_ret
  exact ⟨A2, c2, rfl, HX.out.2.1, HX.out.1, HX.out.2.2⟩
end

section
open Go.RowKit
def lvB (g : Gnd) (lv : List Int) (j : Nat) : Bool := inB (iAt lv j) (cAt g.cells j).lo (cAt g.cells j).hi
def rnB (days : List Day) (rn : List Int) (j : Nat) : Bool := inB (iAt rn j) (dAtW days j).lo (dAtW days j).hi
def fitsB (g : Gnd) (days : List Day) (snow soak : Int) (lv rn : List Int) : Bool :=
 decide (lv.length = g.cells.length) && decide (rn.length = days.length) && inB snow g.slo g.shi && inB soak g.klo g.khi && goodB g.cells.length (lvB g lv) && goodB days.length (rnB days rn)
set_option maxRecDepth 100000 in
set_option maxHeartbeats 2000000 in
theorem has_any67 (g : Gnd) (A : Option Addr) (cp : Nat) (days : List Day) (D : Option Addr) (dp : Nat) (snow soak : Int) (lv : List Int) (L : Option Addr) (lp : Nat) (rn : List Int) (R : Option Addr) (rp : Nat) (w : World) (hn : g.cells.length <= 1000) (hm : days.length <= 1000) (_ : lv.length <= 1000) (_ : rn.length <= 1000)
  (hc : Row cellL 7 w w.heap.size A g.cells) (hd : Row dayL 3 w w.heap.size D days) (hL : Row intL 1 w w.heap.size L lv) (hR : Row intL 1 w w.heap.size R rn) :
  Calls Tryz.prog 43 #[gndV A cp g, .slice D days.length dp, truthV snow soak L lv.length lp R rn.length rp] w fun e w' => e = .returned (.bool (fitsB g days snow soak lv rn)) /\ Below w.heap.size w w' := by
 have HC := Lib.hid hc
 have HD := Lib.hid hd
 have HL := Lib.hid hL
 have HR := Lib.hid hR
 clear hc hd hL hR
 unfold fitsB
 by_cases hlen : lv.length = g.cells.length
 case neg =>
  have hb0 : (lv.length == g.cells.length) = false := by simpa using hlen
  have hb1 : (lv.length != g.cells.length) = true := by simpa using hlen
  have hb2 : ((lv.length : Int) == (g.cells.length : Int)) = false := by simp; omega
  have hb3 : ((lv.length : Int) != (g.cells.length : Int)) = true := by simp; omega
  rw [decide_eq_false hlen]
  clear hlen
  go_enter Tryz.func43, Tryz.ntmps43
  go_wp2_with fail
  go_ret
  exact ⟨rfl, ((Below.refl _ _).alloc (Nat.le_refl _) _).alloc (by simp) _⟩
 case pos =>
 by_cases hlen2 : rn.length = days.length
 case neg =>
  have hb0 : (rn.length == days.length) = false := by simpa using hlen2
  have hb1 : (rn.length != days.length) = true := by simpa using hlen2
  have hb2 : ((rn.length : Int) == (days.length : Int)) = false := by simp; omega
  have hb3 : ((rn.length : Int) != (days.length : Int)) = true := by simp; omega
  rw [decide_eq_true hlen, decide_eq_false hlen2, hlen]
  clear hlen hlen2
  go_enter Tryz.func43, Tryz.ntmps43
  go_wp2_with fail
  go_ret
  exact ⟨rfl, ((Below.refl _ _).alloc (Nat.le_refl _) _).alloc (by simp) _⟩
 case pos =>
 rw [decide_eq_true hlen, decide_eq_true hlen2, hlen, hlen2]
 have HLE := Lib.hid (And.intro hlen hlen2)
 clear hlen hlen2
 obtain ⟨t1, ht1⟩ : ∃ t, t = goodB g.cells.length (lvB g lv) := ⟨_, rfl⟩
 obtain ⟨t2, ht2⟩ : ∃ t, t = goodB days.length (rnB days rn) := ⟨_, rfl⟩
 rw [<- ht1, <- ht2]
 have HT1 := Lib.hid ht1
 have HT2 := Lib.hid ht2
 clear ht1 ht2
 simp only [Bool.true_and]
 cases q1 : inB snow g.slo g.shi
 case' true => cases q2 : inB soak g.klo g.khi
 case true.true =>
  simp only [Bool.true_and]
  go_enter Tryz.func43, Tryz.ntmps43
  go_wp2_with fail
  have hbx : Below w.heap.size w ((w.alloc (.cells (gndC A cp g) 54)).alloc (.cells #[vi snow, vi soak, .slice L g.cells.length lp, .slice R days.length rp] 64)) /\ Whole ((w.alloc (.cells (gndC A cp g) 54)).alloc (.cells #[vi snow, vi soak, .slice L g.cells.length lp, .slice R days.length rp] 64)) w.heap.size 54 (gndC A cp g) /\ Whole ((w.alloc (.cells (gndC A cp g) 54)).alloc (.cells #[vi snow, vi soak, .slice L g.cells.length lp, .slice R days.length rp] 64)) (w.heap.size + 1) 64 #[vi snow, vi soak, .slice L g.cells.length lp, .slice R days.length rp] := by
   refine ⟨((Below.refl _ _).alloc (Nat.le_refl _) _).alloc (by simp) _, (Whole.made w 54 _).alloc _, ?_⟩
   have := Whole.made (w.alloc (.cells (gndC A cp g) 54)) 64 #[vi snow, vi soak, .slice L g.cells.length lp, .slice R days.length rp]
   rw [World.size_alloc] at this
   exact this
  have HB := Lib.hid hbx
  clear hbx
  refine (has_anyW _ _ _ _).mono ?_
  rintro e w' ⟨rfl, rfl⟩
  rw [q1]
  go_wp2_with fail
  refine (has_anyW _ _ _ _).mono ?_
  rintro e w' ⟨rfl, rfl⟩
  rw [q2]
  go_wp2_with fail
  have hst : ∀ W W', (Below w.heap.size w W /\ Whole W w.heap.size 54 (gndC A cp g) /\ Whole W (w.heap.size + 1) 64 #[vi snow, vi soak, .slice L g.cells.length lp, .slice R days.length rp]) -> newer W W' -> (Below w.heap.size w W' /\ Whole W' w.heap.size 54 (gndC A cp g) /\ Whole W' (w.heap.size + 1) 64 #[vi snow, vi soak, .slice L g.cells.length lp, .slice R days.length rp]) := fun W W' h hb => ⟨below_next h.1 hb, h.2.1.below hb h.2.1.lt, h.2.2.below hb h.2.2.lt⟩
  have HS := Lib.hid hst
  clear hst
  have H0 := Lib.hid (HS.out _ _ HB.out (((Below.refl _ _).alloc (Nat.le_refl _) (.cells #[vi g.slo, vi g.shi] 52)).alloc (by simp) (.cells #[vi g.klo, vi g.khi] 52)))
  go_loopw [45] (fun s45 wr => ∃ k : Nat, k <= g.cells.length /\ s45 = .int .i64 k /\ (Below w.heap.size w wr /\ Whole wr w.heap.size 54 (gndC A cp g) /\ Whole wr (w.heap.size + 1) 64 #[vi snow, vi soak, .slice L g.cells.length lp, .slice R days.length rp]) /\ goodTo (lvB g lv) k) (fun s45 _ => g.cells.length - (intOf s45).toNat)
  case atStart => exact ⟨0, Nat.zero_le _, rfl, H0.out, goodTo_zero _⟩
  case round =>
   obtain ⟨k, hk, rfl, hx, hgt⟩ := hrel
   clear H0 HB
   have HG := Lib.hid hgt
   clear hgt
   by_cases hlt : k < g.cells.length
   ·obtain ⟨c, hck⟩ := get_of_lt hlt
    obtain ⟨b, off, rfl, hb, h0, h1, h2, h3, h4, h5, h6⟩ := row7 (HC.out.below hx.1) hck
    obtain ⟨y, hy⟩ := get_of_lt (l := lv) (k := k) (by have := HLE.out.1; omega)
    obtain ⟨lb, lo, rfl, hlb, hly⟩ := row1 (HL.out.below hx.1) hy
    have hkn : (k : Int) < g.cells.length := by omega
    have HV := Lib.hid (show lvB g lv k = inB y c.lo c.hi by unfold lvB; rw [iAt_of hy, cAt_of hck])
    have HXX := Lib.hid (HS.out _ _ hx ((Below.refl _ _).alloc (Nat.le_refl _) (.cells (cellC c) 86)))
    have HY := Lib.hid (keep_cell hly ((Below.refl _ _).alloc (Nat.le_refl _) (.cells (cellC c) 86)))
    have hcw := Whole.made wr 86 (cellC c)
    obtain ⟨cb, hcb⟩ : ∃ cb, cb = wr.heap.size := ⟨_, rfl⟩
    clear hx hck hy hly
    go_upto_region 6 with fail
    rw [<- hcb] at hcw ⊢
    refine genIn2 (fun W => ((Below w.heap.size w W /\ Whole W w.heap.size 54 (gndC (some ⟨b, off, none⟩) cp g) /\ Whole W (w.heap.size + 1) 64 #[vi snow, vi soak, .slice (some ⟨lb, lo, none⟩) g.cells.length lp, .slice R days.length rp]) /\ Whole W cb 86 (cellC c)) /\ W.cell? ⟨lb, lo + k, none⟩ = some (vi y)) ⟨⟨HXX.out, hcw⟩, HY.out⟩ ?_
    clear HXX HY hcw hcb h0 h1 h2 h3 h4 h5 h6
    rintro wv ⟨⟨hx, hcw⟩, hly⟩
    have c0' := hcw.at 0 rfl
    have c1' := hcw.at 1 rfl
    have t2' := hx.2.2.at 2 rfl
    have HX := Lib.hid hx
    clear hx hcw
    obtain ⟨bb, hbb⟩ : ∃ bb, bb = inB y c.lo c.hi := ⟨_, rfl⟩
    have HBB := Lib.hid hbb
    clear hbb
    refine wp_words (by kernel_rfl) (region_told 8 (by kernel_rfl) (by kernel_rfl) (fun W => Below wv.heap.size wv W) newer (pickD [vIs (.pointer (some ⟨cb, 0, none⟩)), vIs (.agg #[vi c.lo, vi c.hi]), vIs (.pointer (some ⟨w.heap.size + 1, 2, none⟩)), vIs (.slice (some ⟨lb, lo, none⟩) g.cells.length lp), vIs (.int .i64 k), vIs (.pointer (some ⟨lb, lo + k, none⟩)), vIs (vi y), vIs (.bool bb)]) (fun h k => newer_trans h k) (pickD_stable _ ⟨vIs_st, vIs_st, vIs_st, vIs_st, vIs_st, vIs_st, vIs_st, vIs_st, trivial⟩) (Below.refl _ wv).drew (Below.refl _ _) ?_ ?_)
    ·refine ⟨?_, ?_, ?_, ?_, ?_, ?_, ?_, ?_, trivial⟩
     ·intro a W hG hR hO hp; have h8 := hO.slot 8 (by kernel_rfl); refine wp_yields (v := .pointer (some ⟨cb, 0, none⟩)) ?_ ⟨_, rfl, rfl, Below.refl _ _, hG⟩; simp [slotOf] at h8; simp [execOp, go_sem, h8]
     ·intro a W hG hR hO hp; have h50 : slotOf a 50 = .pointer (some ⟨cb, 0, none⟩) := hp.1; have c0 := keep_cell c0' hG; have c1 := keep_cell c1' hG; refine wp_yields (v := .agg #[vi c.lo, vi c.hi]) ?_ ⟨_, rfl, rfl, Below.refl _ _, hG⟩; simp [slotOf] at h50; simp [execOp, go_sem, h50, c0, c1]
     ·intro a W hG hR hO hp; have h5 := hO.slot 5 (by kernel_rfl); refine wp_yields (v := .pointer (some ⟨w.heap.size + 1, 2, none⟩)) ?_ ⟨_, rfl, rfl, Below.refl _ _, hG⟩; simp [slotOf] at h5; simp [execOp, go_sem, h5]
     ·intro a W hG hR hO hp; have h52 : slotOf a 52 = .pointer (some ⟨w.heap.size + 1, 2, none⟩) := hp.1; have c0 := keep_cell t2' hG; refine wp_yields (v := .slice (some ⟨lb, lo, none⟩) g.cells.length lp) ?_ ⟨_, rfl, rfl, Below.refl _ _, hG⟩; simp [slotOf] at h52; simp [execOp, go_sem, h52, c0]
     ·intro a W hG hR hO hp; have h7 := hO.slot 7 (by kernel_rfl); refine wp_yields (v := .int .i64 k) ?_ ⟨_, rfl, rfl, Below.refl _ _, hG⟩; simp [slotOf] at h7; simp [execOp, go_sem, h7]
     ·intro a W hG hR hO hp; have h53 : slotOf a 53 = .slice (some ⟨lb, lo, none⟩) g.cells.length lp := hp.1; have h54 : slotOf a 54 = .int .i64 k := hp.2.1; refine wp_yields (v := .pointer (some ⟨lb, lo + k, none⟩)) ?_ ⟨_, rfl, rfl, Below.refl _ _, hG⟩; simp [slotOf] at h53 h54; simp [execOp, go_sem, h53, h54, hkn]
     ·intro a W hG hR hO hp; have h55 : slotOf a 55 = .pointer (some ⟨lb, lo + k, none⟩) := hp.1; have c0 := keep_cell hly hG; refine wp_yields (v := vi y) ?_ ⟨_, rfl, rfl, Below.refl _ _, hG⟩; simp [slotOf] at h55; simp [execOp, go_sem, h55, c0]
     ·intro a W hG hR hO hp
      have h51 : slotOf a 51 = .agg #[vi c.lo, vi c.hi] := hp.1
      have h56 : slotOf a 56 = vi y := hp.2.1
      refine wp_enters (f := 66) (args := #[.agg #[vi c.lo, vi c.hi], .int .i64 y]) ?_ ((has_anyW c.lo c.hi y W).mono ?_)
      ·simp [slotOf] at h51 h56
       simp [go_sem, h51, h56]
      ·rintro e w' ⟨rfl, rfl⟩
       exact ⟨_, rfl, _, rfl, congrArg Value.bool HBB.out.symm, (Below.refl _ _).alloc (Nat.le_refl _) _, hG.alloc hG.size _⟩
    ·intro W hG hR
     rintro _ rfl _ rfl _ rfl _ rfl _ rfl _ rfl _ rfl _ rfl
     change wpList _ _ _ _ _ _
     simp only [Act.put, List.setIfInBounds_toArray, List.set_cons_zero, List.set_cons_succ, List.drop_succ_cons, List.drop_zero]
     have HZ := Lib.hid (HS.out _ _ HX.out hG)
     clear hG hR c0' c1' t2' hly HX
     cases bb
     ·have HF := Lib.hid (show t1 = false by rw [HT1.out]; exact goodB_false hlt (by rw [HV.out]; exact HBB.out.symm))
      go_wp2_with fail
      go_ret
      exact ⟨by rw [HF.out]; rfl, HZ.out.1⟩
     ·have HF := Lib.hid (goodTo_succ HG.out (show lvB g lv k = true by rw [HV.out]; exact HBB.out.symm))
      go_wp2_with fail
      first
       | (go_roundw; (case rel => exact ⟨k + 1, by omega, by go_num, HZ.out, HF.out⟩); (case measure => simp [intOf]; omega))
       | exact ⟨⟨k + 1, by omega, by push_cast; rfl, HZ.out, HF.out⟩, by (simp only [intOf]; omega)⟩
   ·have hkn : k = g.cells.length := by omega
    subst hkn
    have HF1 := Lib.hid (show t1 = true by rw [HT1.out]; exact goodB_true HG.out)
    have HX0 := Lib.hid hx
    clear hx
    go_wp2_with fail
    go_loopw [62] (fun s62 wr => ∃ k : Nat, k <= days.length /\ s62 = .int .i64 k /\ (Below w.heap.size w wr /\ Whole wr w.heap.size 54 (gndC A cp g) /\ Whole wr (w.heap.size + 1) 64 #[vi snow, vi soak, .slice L g.cells.length lp, .slice R days.length rp]) /\ goodTo (rnB days rn) k) (fun s62 _ => days.length - (intOf s62).toNat)
    case atStart => exact ⟨0, Nat.zero_le _, rfl, HX0.out, goodTo_zero _⟩
    case round =>
     obtain ⟨k, hk, rfl, hx, hgt⟩ := hrel
     clear HX0
     have HG2 := Lib.hid hgt
     clear hgt
     by_cases hlt : k < days.length
     ·obtain ⟨d, hdk⟩ := get_of_lt hlt
      obtain ⟨b, off, rfl, hb, h0, h1, h2⟩ := row3W (HD.out.below hx.1) hdk
      obtain ⟨y, hy⟩ := get_of_lt (l := rn) (k := k) (by have := HLE.out.2; omega)
      obtain ⟨lb, lo, rfl, hlb, hly⟩ := row1 (HR.out.below hx.1) hy
      have hkn : (k : Int) < days.length := by omega
      have HV := Lib.hid (show rnB days rn k = inB y d.lo d.hi by unfold rnB; rw [iAt_of hy, dAt_of hdk])
      have HXX := Lib.hid (HS.out _ _ hx ((Below.refl _ _).alloc (Nat.le_refl _) (.cells #[vi d.lo, vi d.hi, vi d.warm] 88)))
      have HY := Lib.hid (keep_cell hly ((Below.refl _ _).alloc (Nat.le_refl _) (.cells #[vi d.lo, vi d.hi, vi d.warm] 88)))
      have hcw := Whole.made wr 88 #[vi d.lo, vi d.hi, vi d.warm]
      obtain ⟨cb, hcb⟩ : ∃ cb, cb = wr.heap.size := ⟨_, rfl⟩
      clear hx hdk hy hly
      go_upto_region 12 with fail
      rw [<- hcb] at hcw ⊢
      refine genIn2 (fun W => ((Below w.heap.size w W /\ Whole W w.heap.size 54 (gndC A cp g) /\ Whole W (w.heap.size + 1) 64 #[vi snow, vi soak, .slice L g.cells.length lp, .slice (some ⟨lb, lo, none⟩) days.length rp]) /\ Whole W cb 88 #[vi d.lo, vi d.hi, vi d.warm]) /\ W.cell? ⟨lb, lo + k, none⟩ = some (vi y)) ⟨⟨HXX.out, hcw⟩, HY.out⟩ ?_
      clear HXX HY hcw hcb h0 h1 h2
      rintro wv ⟨⟨hx, hcw⟩, hly⟩
      have c0' := hcw.at 0 rfl
      have c1' := hcw.at 1 rfl
      have t2' := hx.2.2.at 3 rfl
      have HX := Lib.hid hx
      clear hx hcw
      obtain ⟨bb, hbb⟩ : ∃ bb, bb = inB y d.lo d.hi := ⟨_, rfl⟩
      have HBB := Lib.hid hbb
      clear hbb
      refine wp_words (by kernel_rfl) (region_told 8 (by kernel_rfl) (by kernel_rfl) (fun W => Below wv.heap.size wv W) newer (pickD [vIs (.pointer (some ⟨cb, 0, none⟩)), vIs (.agg #[vi d.lo, vi d.hi]), vIs (.pointer (some ⟨w.heap.size + 1, 3, none⟩)), vIs (.slice (some ⟨lb, lo, none⟩) days.length rp), vIs (.int .i64 k), vIs (.pointer (some ⟨lb, lo + k, none⟩)), vIs (vi y), vIs (.bool bb)]) (fun h k => newer_trans h k) (pickD_stable _ ⟨vIs_st, vIs_st, vIs_st, vIs_st, vIs_st, vIs_st, vIs_st, vIs_st, trivial⟩) (Below.refl _ wv).drew (Below.refl _ _) ?_ ?_)
      ·refine ⟨?_, ?_, ?_, ?_, ?_, ?_, ?_, ?_, trivial⟩
       ·intro a W hG hR hO hp; have h10 := hO.slot 10 (by kernel_rfl); refine wp_yields (v := .pointer (some ⟨cb, 0, none⟩)) ?_ ⟨_, rfl, rfl, Below.refl _ _, hG⟩; simp [slotOf] at h10; simp [execOp, go_sem, h10]
       ·intro a W hG hR hO hp; have h67 : slotOf a 67 = .pointer (some ⟨cb, 0, none⟩) := hp.1; have c0 := keep_cell c0' hG; have c1 := keep_cell c1' hG; refine wp_yields (v := .agg #[vi d.lo, vi d.hi]) ?_ ⟨_, rfl, rfl, Below.refl _ _, hG⟩; simp [slotOf] at h67; simp [execOp, go_sem, h67, c0, c1]
       ·intro a W hG hR hO hp; have h5 := hO.slot 5 (by kernel_rfl); refine wp_yields (v := .pointer (some ⟨w.heap.size + 1, 3, none⟩)) ?_ ⟨_, rfl, rfl, Below.refl _ _, hG⟩; simp [slotOf] at h5; simp [execOp, go_sem, h5]
       ·intro a W hG hR hO hp; have h69 : slotOf a 69 = .pointer (some ⟨w.heap.size + 1, 3, none⟩) := hp.1; have c0 := keep_cell t2' hG; refine wp_yields (v := .slice (some ⟨lb, lo, none⟩) days.length rp) ?_ ⟨_, rfl, rfl, Below.refl _ _, hG⟩; simp [slotOf] at h69; simp [execOp, go_sem, h69, c0]
       ·intro a W hG hR hO hp; have h9 := hO.slot 9 (by kernel_rfl); refine wp_yields (v := .int .i64 k) ?_ ⟨_, rfl, rfl, Below.refl _ _, hG⟩; simp [slotOf] at h9; simp [execOp, go_sem, h9]
       ·intro a W hG hR hO hp; have h70 : slotOf a 70 = .slice (some ⟨lb, lo, none⟩) days.length rp := hp.1; have h71 : slotOf a 71 = .int .i64 k := hp.2.1; refine wp_yields (v := .pointer (some ⟨lb, lo + k, none⟩)) ?_ ⟨_, rfl, rfl, Below.refl _ _, hG⟩; simp [slotOf] at h70 h71; simp [execOp, go_sem, h70, h71, hkn]
       ·intro a W hG hR hO hp; have h72 : slotOf a 72 = .pointer (some ⟨lb, lo + k, none⟩) := hp.1; have c0 := keep_cell hly hG; refine wp_yields (v := vi y) ?_ ⟨_, rfl, rfl, Below.refl _ _, hG⟩; simp [slotOf] at h72; simp [execOp, go_sem, h72, c0]
       ·intro a W hG hR hO hp
        have h68 : slotOf a 68 = .agg #[vi d.lo, vi d.hi] := hp.1
        have h73 : slotOf a 73 = vi y := hp.2.1
        refine wp_enters (f := 66) (args := #[.agg #[vi d.lo, vi d.hi], .int .i64 y]) ?_ ((has_anyW d.lo d.hi y W).mono ?_)
        ·simp [slotOf] at h68 h73
         simp [go_sem, h68, h73]
        ·rintro e w' ⟨rfl, rfl⟩
         exact ⟨_, rfl, _, rfl, congrArg Value.bool HBB.out.symm, (Below.refl _ _).alloc (Nat.le_refl _) _, hG.alloc hG.size _⟩
      ·intro W hG hR
       rintro _ rfl _ rfl _ rfl _ rfl _ rfl _ rfl _ rfl _ rfl
       change wpList _ _ _ _ _ _
       simp only [Act.put, List.setIfInBounds_toArray, List.set_cons_zero, List.set_cons_succ, List.drop_succ_cons, List.drop_zero]
       have HZ := Lib.hid (HS.out _ _ HX.out hG)
       clear hG hR c0' c1' t2' hly HX
       cases bb
       ·have HF := Lib.hid (show t2 = false by rw [HT2.out]; exact goodB_false hlt (by rw [HV.out]; exact HBB.out.symm))
        go_wp2_with fail
        go_ret
        exact ⟨by rw [HF.out]; simp, HZ.out.1⟩
       ·have HF := Lib.hid (goodTo_succ HG2.out (show rnB days rn k = true by rw [HV.out]; exact HBB.out.symm))
        go_wp2_with fail
        first
         | (go_roundw; (case rel => exact ⟨k + 1, by omega, by go_num, HZ.out, HF.out⟩); (case measure => simp [intOf]; omega))
         | exact ⟨⟨k + 1, by omega, by push_cast; rfl, HZ.out, HF.out⟩, by (simp only [intOf]; omega)⟩
     ·have hkn : k = days.length := by omega
      subst hkn
      have HF2 := Lib.hid (show t2 = true by rw [HT2.out]; exact goodB_true HG2.out)
      have HX0 := Lib.hid hx.1
      clear hx
      go_wp2_with fail
      go_ret
      exact ⟨by rw [HF1.out, HF2.out]; rfl, HX0.out⟩
 all_goals
  (go_enter Tryz.func43, Tryz.ntmps43
   go_wp2_with (go_at_call 66; refine (has_anyW _ _ _ _).mono ?_; rintro e w' ⟨rfl, rfl⟩)
   go_ret
   refine ⟨by simp, ?_⟩
   first
    | exact (((Below.refl _ _).alloc (Nat.le_refl _) _).alloc (by simp) _).alloc (by simp; omega) _
    | exact ((((Below.refl _ _).alloc (Nat.le_refl _) _).alloc (by simp) _).alloc (by simp; omega) _).alloc (by simp; omega) _)
end

section
open Go.RowKit Go.Shelf
structure TabRW (W : World) (base n : Nat) (v1 v2 : Value) (A : Nat -> Option Addr) (c : Nat -> Nat) (k : Nat) (f : Nat -> Nat -> Int) (sl : Nat -> Int) : Prop where
 own1 : W.ownsRow base 60 1 v1 k ((List.range k).map fun j => .slice (A j) n (c j))
 own2 : W.ownsRow base 3 1 v2 k ((List.range k).map fun j => vi (sl j))
 rows : ∀ j, j < k -> Row intL 1 W W.heap.size (A j) ((List.range n).map (f j))
 low : ∀ j, j < k -> ∀ a, A j = some a -> base <= a.block /\ a.block < W.heap.size
 apart1 : ∀ j, j < k -> ∀ a, A j = some a -> v1.ownBlock ≠ some a.block
 apart2 : ∀ j, j < k -> ∀ a, A j = some a -> v2.ownBlock ≠ some a.block
section
variable {W W' : World} {base n : Nat} {v1 v2 : Value} {A : Nat -> Option Addr} {c : Nat -> Nat} {k : Nat} {f : Nat -> Nat -> Int} {sl : Nat -> Int}
theorem TabRW.newer (h : TabRW W base n v1 v2 A c k f sl) (hb : newer W W') : TabRW W' base n v1 v2 A c k f sl :=
 ⟨own_below h.own1 hb, own_below h.own2 hb, fun j hj => ((h.rows j hj).below hb).more hb.size, fun j hj a e => ⟨(h.low j hj a e).1, Nat.lt_of_lt_of_le (h.low j hj a e).2 hb.size⟩, h.apart1, h.apart2⟩
theorem TabRW.free (h : TabRW W base n v1 v2 A c k f sl) {x : Nat} (hg : W.grownBy W' (some x)) (h1 : v1.ownBlock ≠ some x) (h2 : v2.ownBlock ≠ some x) (h3 : ∀ j, j < k -> ∀ a, A j = some a -> a.block ≠ x) : TabRW W' base n v1 v2 A c k f sl :=
 ⟨h.own1.kept hg (.inr h1), h.own2.kept hg (.inr h2), fun j hj => (h.rows j hj).grownNe hg (Nat.le_refl _) hg.size (fun a e e' => by injection e' with e'; exact h3 j hj a e e'.symm), fun j hj a e => ⟨(h.low j hj a e).1, Nat.lt_of_lt_of_le (h.low j hj a e).2 hg.size⟩, h.apart1, h.apart2⟩
theorem TabRW.old (h : TabRW W base n v1 v2 A c k f sl) {x : Nat} (hg : W.grownBy W' (some x)) (hx : x < base) : TabRW W' base n v1 v2 A c k f sl :=
 h.free hg (fun e => by have := own_ge h.own1 _ e; omega) (fun e => by have := own_ge h.own2 _ e; omega) (fun j hj a e => by have := h.low j hj a e; omega)
theorem TabRW.empty_ (W : World) (base n : Nat) (A : Nat -> Option Addr) (c : Nat -> Nat) (f : Nat -> Nat -> Int) (sl : Nat -> Int) : TabRW W base n (.slice none 0 0) (.slice none 0 0) A c 0 f sl :=
 ⟨⟨by simp, .inl ⟨rfl, rfl⟩⟩, ⟨by simp, .inl ⟨rfl, rfl⟩⟩, fun j hj => by omega, fun j hj => by omega, fun j hj => by omega, fun j hj => by omega⟩
end
theorem TabRW.add {w7 W w8 : World} {base n : Nat} {v1 v2 : Value} {A : Nat -> Option Addr} {c : Nat -> Nat} {k : Nat} {f : Nat -> Nat -> Int} {sl : Nat -> Int} {B : Option Addr} {cb : Nat} {g1 c1 g2 c2 : Nat} (h : TabRW w7 base n v1 v2 A c k f sl) (hr : Row intL 1 W W.heap.size B ((List.range n).map (f k))) (hrb : ∀ a, B = some a -> w7.heap.size <= a.block /\ a.block < W.heap.size) (hbw : base <= w7.heap.size)
  (hg1 : w7.grownBy W v1.ownBlock) (ho1 : W.ownsRow base 60 1 (.slice (some ⟨g1, 0, none⟩) (k + 1) c1) (k + 1) (((List.range k).map fun j => Value.slice (A j) n (c j)) ++ [.slice B n cb])) (hat1 : v1.ownBlock = some g1 ∨ w7.heap.size <= g1) (hg1B : ∀ a, B = some a -> a.block ≠ g1)
  (hg2 : W.grownBy w8 v2.ownBlock) (ho2 : w8.ownsRow base 3 1 (.slice (some ⟨g2, 0, none⟩) (k + 1) c2) (k + 1) (((List.range k).map fun j => vi (sl j)) ++ [vi (sl k)])) (hat : v2.ownBlock = some g2 ∨ W.heap.size <= g2) :
  TabRW w8 base n (.slice (some ⟨g1, 0, none⟩) (k + 1) c1) (.slice (some ⟨g2, 0, none⟩) (k + 1) c2) (fun j => if j = k then B else A j) (fun j => if j = k then cb else c j) (k + 1) f sl := by
 have ne12 : ∀ q, v1.ownBlock = some q -> v2.ownBlock ≠ some q := own_own_ne h.own1 h.own2 (by decide)
 have o2lt := own_lt h.own2
 have o2W : W.ownsRow base 3 1 v2 k ((List.range k).map fun j => vi (sl j)) := by
  rcases Option.eq_none_or_eq_some v2.ownBlock with e | ⟨q, e⟩
  ·exact h.own2.kept hg1 (.inl e)
  ·exact h.own2.kept hg1 (.inr (fun e' => own_own_ne h.own2 h.own1 (by decide) q e (e'.symm.trans e)))
 have o1W : w8.ownsRow base 60 1 (.slice (some ⟨g1, 0, none⟩) (k + 1) c1) (k + 1) (((List.range k).map fun j => Value.slice (A j) n (c j)) ++ [.slice B n cb]) :=
  ho1.kept hg2 (.inr (fun e' => own_own_ne ho1 o2W (by decide) g1 rfl e'.symm))
 have hs1 := hg1.size
 have hs2 := hg2.size
 have hB2 : ∀ a, B = some a -> v2.ownBlock ≠ some a.block := fun a e e' => by
  have := o2lt _ e'
  have := (hrb a e).1
  omega
 refine ⟨?_, ?_, ?_, ?_, ?_, ?_⟩
 ·have e : ((List.range (k + 1)).map fun j => Value.slice (if j = k then B else A j) n (if j = k then cb else c j)) = ((List.range k).map fun j => Value.slice (A j) n (c j)) ++ [.slice B n cb] := by
   rw [List.range_succ, List.map_append]
   congr 1
   ·apply List.map_congr_left
    intro j hj
    have := List.mem_range.1 hj
    rw [if_neg (by omega), if_neg (by omega)]
   ·simp
  rw [e]
  exact o1W
 ·rw [List.range_succ, List.map_append]
  exact ho2
 ·intro j hj
  by_cases e : j = k
  ·subst e
   skip
   rw [if_pos rfl]
   exact hr.grownNe hg2 (Nat.le_refl _) hg2.size (fun a e => hB2 a e)
  ·skip
   rw [if_neg e]
   exact ((h.rows j (by omega)).grownNe hg1 (Nat.le_refl _) hg1.size (fun a ea => h.apart1 j (by omega) a ea)).grownNe hg2 (Nat.le_refl _) hg2.size (fun a ea => h.apart2 j (by omega) a ea)
 ·intro j hj a ea
  skip
  by_cases e : j = k
  ·rw [if_pos e] at ea
   have := hrb a ea
   omega
  ·rw [if_neg e] at ea
   have := h.low j (by omega) a ea
   omega
 ·intro j hj a ea e'
  skip
  have e' : g1 = a.block := by simpa [Value.ownBlock] using e'
  by_cases e : j = k
  ·rw [if_pos e] at ea
   exact hg1B a ea e'.symm
  ·rw [if_neg e] at ea
   rcases hat1 with h1 | h1
   ·exact h.apart1 j (by omega) a ea (by rw [h1, e'])
   ·have := (h.low j (by omega) a ea).2
    omega
 ·intro j hj a ea e'
  skip
  have e' : g2 = a.block := by simpa [Value.ownBlock] using e'
  by_cases e : j = k
  ·rw [if_pos e] at ea
   rcases hat with h1 | h1
   ·exact hB2 a ea (by rw [h1, e'])
   ·have := (hrb a ea).2
    omega
  ·rw [if_neg e] at ea
   rcases hat with h1 | h1
   ·exact h.apart2 j (by omega) a ea (by rw [h1, e'])
   ·have := (h.low j (by omega) a ea).2
    omega
structure RnAW (w : World) (gcs tcs : Array Value) (W : World) : Prop where
 below : Below w.heap.size w W
 gb : Whole W w.heap.size 54 gcs
 tb : Whole W (w.heap.size + 1) 64 tcs
 l1 : Whole W (w.heap.size + 1 + 1) 59 #[.slice none 0 0]
 l2 : Whole W (w.heap.size + 1 + 1 + 1) 60 #[.slice none 0 0]
theorem RnAW.made (w : World) (gcs tcs : Array Value) : RnAW w gcs tcs ((((w.alloc (.cells gcs 54)).alloc (.cells tcs 64)).alloc (.cells #[.slice none 0 0] 59)).alloc (.cells #[.slice none 0 0] 60)) := by
 refine ⟨((((Below.refl _ _).alloc (Nat.le_refl _) _).alloc (by simp) _).alloc (by simp; omega) _).alloc (by simp; omega) _, ?_, ?_, ?_, ?_⟩
 ·(simp only [Whole, heap_if, World.size_alloc]; (repeat rw [if_neg (by omega)]); rfl)
 ·(simp only [Whole, heap_if, World.size_alloc]; (repeat rw [if_neg (by omega)]); rfl)
 ·(simp only [Whole, heap_if, World.size_alloc]; (repeat rw [if_neg (by omega)]); rfl)
 ·(simp only [Whole, heap_if, World.size_alloc]; (repeat rw [if_neg (by omega)]); rfl)
theorem RnAW.later {w : World} {gcs tcs : Array Value} {W W' : World} (h : RnAW w gcs tcs W) (hb : newer W W') : RnAW w gcs tcs W' := ⟨below_next h.below hb, h.gb.below hb h.gb.lt, h.tb.below hb h.tb.lt, h.l1.below hb h.l1.lt, h.l2.below hb h.l2.lt⟩
def trWay (g : Gnd) (A : Option Addr) (ap : Nat) (days : List Day) (D : Option Addr) (dp : Nat) (snow soak : Int) (lv : List Int) (L : Option Addr) (lp : Nat) (rn : List Int) (R : Option Addr) (rp : Nat) : Way :=
 ⟨g.cells, A, ap, g.slo, g.shi, g.klo, g.khi, g.melt, days, D, dp, snow, soak, lv, L, lp, rn, R, rp⟩
def stR (g : Gnd) (days : List Day) (snow soak : Int) (lv rn : List Int) (k : Nat) : St := stAt g.cells g.melt soak days rn ⟨iAt lv, snow, 0⟩ k
structure RnB (w : World) (s : Way) (x : St) (lv lb : Nat) (W : World) : Prop where
 below : Below w.heap.size w W
 l1 : Whole W (w.heap.size + 1 + 1) 59 #[.slice none 0 0]
 l2 : Whole W (w.heap.size + 1 + 1 + 1) 60 #[.slice none 0 0]
 var : Whole W lv 103 #[.pointer (some ⟨lb, 0, none⟩)]
 way : OnWay W lb s x.f x.snow x.left
 far1 : w.heap.size + 1 + 1 + 1 < lv
 far2 : w.heap.size + 1 + 1 + 1 < lb
 ne : lv ≠ lb
structure RnJ (w w3 : World) (n lb : Nat) (s : Way) (x : St) (r : Loop) (v1 v2 : Value) (A : Nat -> Option Addr) (c : Nat -> Nat) (k : Nat) (f : Nat -> Nat -> Int) (sl : Nat -> Int) (W : World) : Prop where
 loop : W.heap[w3.heap.size + 1 + 1]? = some (.loop r)
 dfr : W.heap[w3.heap.size + 1]? = some (.deferred (some []))
 box : Whole W w3.heap.size 103 #[.pointer (some ⟨lb, 0, none⟩)]
 keep : Kept (fun i => i = w.heap.size + 1 + 1 ∨ i = w.heap.size + 1 + 1 + 1 ∨ i = lb) w3 W
 l1 : Whole W (w.heap.size + 1 + 1) 59 #[v1]
 l2 : Whole W (w.heap.size + 1 + 1 + 1) 60 #[v2]
 way' : OnWay W lb s x.f x.snow x.left
 tab : TabRW W (w3.heap.size + 1 + 1 + 1) n v1 v2 A c k f sl
 far : w.heap.size + 1 + 1 + 1 < lb /\ lb < w3.heap.size
section
variable {w w3 : World} {n lb : Nat} {s : Way} {x : St} {r : Loop} {v1 v2 : Value} {A : Nat -> Option Addr} {c : Nat -> Nat} {k : Nat} {f : Nat -> Nat -> Int} {sl : Nat -> Int} {W W' : World}
theorem RnJ.newer (h : RnJ w w3 n lb s x r v1 v2 A c k f sl W) (hb : newer W W') : RnJ w w3 n lb s x r v1 v2 A c k f sl W' := by
 have hs := (Array.getElem?_eq_some_iff.1 h.loop).1
 exact ⟨(hb.block _ hs).trans h.loop, (hb.block _ (by omega)).trans h.dfr, h.box.below hb h.box.lt, h.keep.newer hb, h.l1.below hb h.l1.lt, h.l2.below hb h.l2.lt, h.way'.below hb h.way'.blk.lt, h.tab.newer hb, h.far⟩
theorem RnJ.way (h : RnJ w w3 n lb s x r v1 v2 A c k f sl W) (hg : W.grownBy W' (some lb)) {x' : St} (hw : OnWay W' lb s x'.f x'.snow x'.left) : RnJ w w3 n lb s x' r v1 v2 A c k f sl W' := by
 have hs := (Array.getElem?_eq_some_iff.1 h.loop).1
 have hf := h.far
 exact ⟨(hg.block _ hs (by intro e; injection e; omega)).trans h.loop, (hg.block _ (by omega) (by intro e; injection e; omega)).trans h.dfr, h.box.grown hg (by intro e; injection e; omega), h.keep.grown hg (.inl (.inr (.inr rfl))), h.l1.grown hg (by intro e; injection e; omega), h.l2.grown hg (by intro e; injection e; omega), hw, h.tab.old hg (by omega), hf⟩
theorem RnJ.put (h : RnJ w w3 n lb s x r v1 v2 A c k f sl W) (r' : Loop) : RnJ w w3 n lb s x r' v1 v2 A c k f sl (W.putObj (w3.heap.size + 1 + 1) (.loop r')) := by
 have hs := (Array.getElem?_eq_some_iff.1 h.loop).1
 have hf := h.far
 have hg := grown_putL W (w3.heap.size + 1 + 1) (.loop r')
 exact ⟨World.putObj_heap_same hs, (World.putObj_heap_other (by omega)).trans h.dfr, h.box.put (by omega) _, h.keep.grown hg (.inr (by omega)), h.l1.put (by omega) _, h.l2.put (by omega) _, h.way'.put (by omega) _, h.tab.old hg (by omega), hf⟩
end
theorem Tryz.info60 : (Tryz.prog.info? 60).map (fun i => (i.zero, i.size, i.bytes)) = some (some (.slice none 0 0), 1, 24) := by kernel_rfl
theorem RnJ.add {w w3 : World} {n lb : Nat} {s : Way} {x : St} {r : Loop} {v1 v2 v1' v2' : Value} {A A' : Nat -> Option Addr} {c c' : Nat -> Nat} {k k' : Nat} {f f' : Nat -> Nat -> Int} {sl sl' : Nat -> Int} {w7 W w8 : World} (h : RnJ w w3 n lb s x r v1 v2 A c k f sl w7) (hg1 : w7.grownBy W v1.ownBlock) (hg2 : W.grownBy w8 v2.ownBlock)
  (ht : TabRW w8 (w3.heap.size + 1 + 1 + 1) n v1' v2' A' c' k' f' sl') : RnJ w w3 n lb s x r v1' v2' A' c' k' f' sl' ((w8.setCell ⟨w.heap.size + 1 + 1, 0, none⟩ v1').setCell ⟨w.heap.size + 1 + 1 + 1, 0, none⟩ v2') := by
 have hs := (Array.getElem?_eq_some_iff.1 h.loop).1
 have hf := h.far
 have b1 : Below (w3.heap.size + 1 + 1 + 1) w7 W := below_grown hg1 (own_ge h.tab.own1) (by omega)
 have b2 : Below (w3.heap.size + 1 + 1 + 1) W w8 := below_grown hg2 (own_ge h.tab.own2) (by have := hg1.size; omega)
 have b := b1.trans b2
 have s1 := grown_set (p := ⟨w.heap.size + 1 + 1, 0, none⟩) (grown_refl w8 (some (w.heap.size + 1 + 1))) (.inl rfl) v1'
 have s2 := grown_set (p := ⟨w.heap.size + 1 + 1 + 1, 0, none⟩) (grown_refl (w8.setCell ⟨w.heap.size + 1 + 1, 0, none⟩ v1') (some (w.heap.size + 1 + 1 + 1))) (.inl rfl) v2'
 have z1 : w8.heap.size <= (w8.setCell ⟨w.heap.size + 1 + 1, 0, none⟩ v1').heap.size := s1.size
 have z0 : w3.heap.size + 1 + 1 < w8.heap.size := Nat.lt_of_lt_of_le hs b.size
 have same : ∀ i, i < w3.heap.size + 1 + 1 + 1 -> i ≠ w.heap.size + 1 + 1 -> i ≠ w.heap.size + 1 + 1 + 1 -> ((w8.setCell ⟨w.heap.size + 1 + 1, 0, none⟩ v1').setCell ⟨w.heap.size + 1 + 1 + 1, 0, none⟩ v2').heap[i]? = w7.heap[i]? := fun i hi h1 h2 =>
  (s2.block i (by omega) (by intro e; injection e; omega)).trans ((s1.block i (by omega) (by intro e; injection e; omega)).trans (b.block i hi))
 refine ⟨(same _ (by omega) (by omega) (by omega)).trans h.loop, (same _ (by omega) (by omega) (by omega)).trans h.dfr, (same _ (by omega) (by omega) (by omega)).trans h.box, ?_, ?_, ?_, ?_, (ht.old s1 (by omega)).old s2 (by omega), hf⟩
 ·exact ⟨b.os.trans h.keep.os, b.tape.trans h.keep.tape, b.output.trans h.keep.output, by have := h.keep.size; have := b.size; have := s2.size; omega, fun i hi hx => (same i (by omega) (by omega) (by omega)).trans (h.keep.block i hi hx)⟩
 ·have w1 : Whole w8 (w.heap.size + 1 + 1) 59 #[v1] := h.l1.below b (by omega)
  exact (w1.set 0 v1').grown s2 (by intro e; injection e; omega)
 ·have w1 : Whole w8 (w.heap.size + 1 + 1 + 1) 60 #[v2] := h.l2.below b (by omega)
  exact (w1.grown s1 (by intro e; injection e; omega)).set 0 v2'
 ·have l8 := h.way'.below b (by omega)
  have w1 : Whole w8 (w.heap.size + 1 + 1) 59 #[v1] := h.l1.below b (by omega)
  have w2 : Whole (w8.setCell ⟨w.heap.size + 1 + 1, 0, none⟩ v1') (w.heap.size + 1 + 1 + 1) 60 #[v2] := (h.l2.below b (by omega)).grown s1 (by intro e; injection e; omega)
  obtain ⟨_, _, e1⟩ := own_form h.tab.own1
  obtain ⟨_, _, e2⟩ := own_form h.tab.own2
  exact (l8.var' (fun n e => by rw [e1] at e; cases e) (by decide) w1 _).var' (fun n e => by rw [e2] at e; cases e) (by decide) w2 _
end

end Go.Proofs.YtcdhhfgpdokkoaaGreat
