/- The test of Least: is a level kept with a pump? -/
import Derived.Test.YteonkhohloabfaaS
namespace Go.Proofs.Yteonkhohloabfaa
open Go.RowKit

/-- A ground with another pump of a cell. -/
def withPump (g : Gnd) (cell : Nat) (pump : Int) : Gnd := { g with cells := g.cells.set cell { cAt g.cells cell with pump := pump } }
theorem withPump_len (g : Gnd) (cell : Nat) (pump : Int) : (withPump g cell pump).cells.length = g.cells.length := by simp [withPump]
theorem withPump_twice (g : Gnd) (cell : Nat) (p q : Int) : withPump (withPump g cell p) cell q = withPump g cell q := by
  unfold withPump
  simp only [List.set_set, Gnd.mk.injEq, and_true]
  rcases Nat.lt_or_ge cell g.cells.length with h | h
  · congr 1
    simp [cAt, h]
  · rw [List.set_eq_of_length_le h, List.set_eq_of_length_le h]
theorem flat7_set (l : List Cell) : ∀ (k : Nat) (x : Int), k < l.length → (l.flatMap cellL).set (k * 7 + 6) (vi x) = (l.set k { cAt l k with pump := x }).flatMap cellL := by
  induction l with
  | nil => intro k x h; simp at h
  | cons c l ih =>
    intro k x h
    cases k with
    | zero => rfl
    | succ k =>
      have h' : k < l.length := by simpa using h
      have := ih k x h'
      simp only [List.flatMap_cons, List.set_cons_succ]
      rw [List.set_append_right _ _ (by simp; omega)]
      simp only [List.length_cons, List.length_nil]
      rw [show (k + 1) * 7 + 6 - (0 + 1 + 1 + 1 + 1 + 1 + 1 + 1) = k * 7 + 6 by omega, this]
      rfl

/-- The memory of Least while it looks. -/
structure LsAt (w : World) (g : Gnd) (cell : Nat) (level : Int) (days : List Day) (D : Option Addr) (dp : Nat) (bc bl bg bd bv cb cap : Nat) (gcs : Array Value) (pump : Int) (W : World) : Prop where
  cv : Whole W bc 35 #[.slice (some ⟨cb, 0, none⟩) g.cells.length cap]
  cl : Whole W bl 3 #[.int .i64 cell]
  gb : Whole W bg 38 gcs
  dv : Whole W bd 40 #[.slice D days.length dp]
  lv : Whole W bv 3 #[.int .i64 level]
  own : W.ownsRow w.heap.size 99 7 (.slice (some ⟨cb, 0, none⟩) g.cells.length cap) g.cells.length ((withPump g cell pump).cells.flatMap cellL)
  below : Below w.heap.size w W

/-- Is a level kept with a pump? -/
def keepsB (g : Gnd) (days : List Day) (cell : Nat) (level pump : Int) : Bool := firstD days.length (fun k => decide (level + 1 ≤ (stE true (withPump g cell pump) days (k + 1)).f cell)) == -1

theorem LsAt.newer {w : World} {g : Gnd} {cell : Nat} {level : Int} {days : List Day} {D : Option Addr} {dp bc bl bg bd bv cb cap : Nat} {gcs : Array Value} {pump : Int} {W W' : World} (h : LsAt w g cell level days D dp bc bl bg bd bv cb cap gcs pump W) (hb : newer W W') : LsAt w g cell level days D dp bc bl bg bd bv cb cap gcs pump W' :=
  ⟨h.cv.below hb h.cv.lt, h.cl.below hb h.cl.lt, h.gb.below hb h.gb.lt, h.dv.below hb h.dv.lt, h.lv.below hb h.lv.lt, own_below h.own hb, below_next h.below hb⟩
theorem LsAt.kept {w : World} {g : Gnd} {cell : Nat} {level : Int} {days : List Day} {D : Option Addr} {dp bc bl bg bd bv cb cap : Nat} {gcs : Array Value} {pump : Int} {W W' W'' : World} (h : LsAt w g cell level days D dp bc bl bg bd bv cb cap gcs pump W) (hb : Below W.heap.size W W') {b : Nat} (hb' : W.heap.size ≤ b) (hg : W'.grownBy W'' (some b)) : LsAt w g cell level days D dp bc bl bg bd bv cb cap gcs pump W'' := by
  have hbb : Below W.heap.size W W'' := hb.trans (below_of_grown hg hb' hb.size)
  exact h.newer hbb

set_option maxRecDepth 100000 in
set_option maxHeartbeats 2000000 in
theorem keeps_any (w : World) (g : Gnd) (cell : Nat) (level : Int) (days : List Day) (D : Option Addr) (dp bc bl bg bd bv cb cap : Nat) (A0 : Option Addr) (ap : Nat) (pm pump : Int) (W0 : World) (hcell : cell < g.cells.length) (hv0 : 0 ≤ level) (hv1 : level ≤ 100000) (hd : Row dayL 3 w w.heap.size D days)
    (hf : faultN (withPump g cell pump) days = 0) (h : LsAt w g cell level days D dp bc bl bg bd bv cb cap (gndC A0 ap g) pm W0) :
    Calls Try.prog 60 #[.int .i64 pump, .pointer (some ⟨bc, 0, none⟩), .pointer (some ⟨bl, 0, none⟩), .pointer (some ⟨bg, 0, none⟩), .pointer (some ⟨bd, 0, none⟩), .pointer (some ⟨bv, 0, none⟩)] W0 fun e W' =>
      e = .returned (.bool (keepsB g days cell level pump)) ∧ LsAt w g cell level days D dp bc bl bg bd bv cb cap (gndC A0 ap g) pump W' := by
  have hok := wayOk_end true hf
  have hn8 : (withPump g cell pump).cells.length ≤ 8 := hok.few
  have hn7 : (withPump g cell pump).cells.length ≤ 1000 := by omega
  have hmm := hok.many
  have hl := withPump_len g cell pump
  have hlp := withPump_len g cell pm
  -- the store of the pump
  have hst := h.own.stored (cell * 7 + 6) (vi pump)
  have hcur := h.own.cellAt (cell * 7 + 6) (by omega)
  have hfr := h.own.frozenAt (cell * 7 + 6)
  obtain ⟨u, hu⟩ : ∃ u, ((withPump g cell pm).cells.flatMap cellL)[cell * 7 + 6]? = some u := by
    have : cell * 7 + 6 < ((withPump g cell pm).cells.flatMap cellL).length := by rw [h.own.1]; omega
    exact ⟨_, List.getElem?_eq_getElem this⟩
  rw [hu] at hcur
  have hset : ((withPump g cell pm).cells.flatMap cellL).set (cell * 7 + 6) (vi pump) = (withPump g cell pump).cells.flatMap cellL := by
    rw [flat7_set _ _ _ (by omega)]
    have := withPump_twice g cell pm pump
    rw [← this]
    rfl
  rw [hset] at hst
  have c1 := h.cv.at 0 rfl
  have c2 := h.cl.at 0 rfl
  have g1 := h.gb.at 1 rfl
  have g2 := h.gb.at 2 rfl
  have g3 := h.gb.at 3 rfl
  have g4 := h.gb.at 4 rfl
  have g5 := h.gb.at 5 rfl
  have hne1 := h.own
  have nc := own_ne h.own h.cv (by decide)
  have nl := own_ne h.own h.cl (by decide)
  have ng := own_ne h.own h.gb (by decide)
  have nd := own_ne h.own h.dv (by decide)
  have nv := own_ne h.own h.lv (by decide)
  have hA : LsAt w g cell level days D dp bc bl bg bd bv cb cap (gndC A0 ap g) pump (W0.setCell ⟨cb, cell * 7 + 6, none⟩ (vi pump)) :=
    ⟨h.cv.grown hst.2 (fun e => nc e.symm), h.cl.grown hst.2 (fun e => nl e.symm), h.gb.grown hst.2 (fun e => ng e.symm), h.dv.grown hst.2 (fun e => nd e.symm), h.lv.grown hst.2 (fun e => nv e.symm), hst.1, h.below.setCell (p := ⟨cb, cell * 7 + 6, none⟩) (own_ge h.own cb rfl) _⟩
  have x1 := hA.cv.at 0 rfl
  have x2 := hA.gb.at 1 rfl
  have x3 := hA.gb.at 2 rfl
  have x4 := hA.gb.at 3 rfl
  have x5 := hA.gb.at 4 rfl
  have x6 := hA.gb.at 5 rfl
  have hci : (cell : Int) < (g.cells.length : Int) := by omega
  have HA := Lib.hid hA
  have HD0 := Lib.hid hd
  have HF := Lib.hid hok
  have HL := Lib.hid hl
  clear hst hset hA hd h hok hf hne1 nc nl ng nd nv hu hl hlp
  go_enter Try.func60, Try.ntmps60
  go_wp2
  have hxs : (W0.setCell ⟨cb, cell * 7 + 6, none⟩ (vi pump)).heap.size = W0.heap.size := by simp [World.setCell]
  have HG : Hid (LsAt w g cell level days D dp bc bl bg bd bv cb cap (gndC A0 ap g) pump ((W0.setCell ⟨cb, cell * 7 + 6, none⟩ (vi pump)).alloc (.cells #[.slice (some ⟨cb, 0, none⟩) g.cells.length cap, vi g.slo, vi g.shi, vi g.klo, vi g.khi, vi g.melt] 38)) ∧
      Whole ((W0.setCell ⟨cb, cell * 7 + 6, none⟩ (vi pump)).alloc (.cells #[.slice (some ⟨cb, 0, none⟩) g.cells.length cap, vi g.slo, vi g.shi, vi g.klo, vi g.khi, vi g.melt] 38)) W0.heap.size 38 #[.slice (some ⟨cb, 0, none⟩) g.cells.length cap, vi g.slo, vi g.shi, vi g.klo, vi g.khi, vi g.melt]) :=
    ⟨(HA.out).newer ((Below.refl _ _).alloc (Nat.le_refl _) _), hxs ▸ Whole.made _ _ _⟩
  refine gen_world (fun W => LsAt w g cell level days D dp bc bl bg bd bv cb cap (gndC A0 ap g) pump W ∧ Whole W W0.heap.size 38 #[.slice (some ⟨cb, 0, none⟩) g.cells.length cap, vi g.slo, vi g.shi, vi g.klo, vi g.khi, vi g.melt]) HG.out ?_
  clear HG hxs HA x1 x2 x3 x4 x5 x6 c1 c2 g1 g2 g3 g4 g5 hcur hfr
  rintro wv ⟨hls, hxb⟩
  have e0 : wv.cell? ⟨W0.heap.size, 0, none⟩ = some (.slice (some ⟨cb, 0, none⟩) (withPump g cell pump).cells.length cap) := by rw [HL.out]; exact hxb.at 0 rfl
  have e1 := hxb.at 1 (v := vi (withPump g cell pump).slo) rfl
  have e2 := hxb.at 2 (v := vi (withPump g cell pump).shi) rfl
  have e3 := hxb.at 3 (v := vi (withPump g cell pump).klo) rfl
  have e4 := hxb.at 4 (v := vi (withPump g cell pump).khi) rfl
  have e5 := hxb.at 5 (v := vi (withPump g cell pump).melt) rfl
  have d0 := hls.dv.at 0 rfl
  have c0 := hls.cl.at 0 rfl
  have l0 := hls.lv.at 0 rfl
  have hlv : IntKind.i64.wrap (level + 1) = level + 1 := IntWalk.i64_in _ (by omega)
  have HC : Hid (Row cellL 7 wv wv.heap.size (some ⟨cb, 0, none⟩) (withPump g cell pump).cells) := row_of_own (by omega) (fun _ => rfl) hls.own
  have HD : Hid (Row dayL 3 wv wv.heap.size D days) := ((HD0.out).below hls.below).more hls.below.size
  have HS := Lib.hid hls
  clear hls hxb HD0
  refine wp_words (by kernel_rfl) (region_told 10 (by kernel_rfl) (by kernel_rfl) (fun W => Below wv.heap.size wv W) newer (pickD [vIs (gndV (some ⟨cb, 0, none⟩) cap (withPump g cell pump)), vIs (.slice D days.length dp), vIs (choiceV true), vIs (gndV (some ⟨cb, 0, none⟩) cap (withPump g cell pump)), vIs (.slice D days.length dp), vTruth wv.heap.size true (withPump g cell pump) days, vWay wv.heap.size (withPump g cell pump) (some ⟨cb, 0, none⟩) cap days D dp true, vIs (.int .i64 cell), vIs (.int .i64 level), vIs (.int .i64 (level + 1))]) (fun h k => newer_trans h k) (pickD_stable _ ⟨vIs_st, vIs_st, vIs_st, vIs_st, vIs_st, vTruth_st, vWay_st, vIs_st, vIs_st, vIs_st, trivial⟩) (Below.refl _ wv).drew (Below.refl _ _) ?_ ?_)
  · refine ⟨?_, ?_, ?_, ?_, ?_, ?_, ?_, ?_, ?_, ?_, trivial⟩
    · intro a W hG hR hO hp
      have h8 := hO.slot 8 (by kernel_rfl)
      have c0 := keep_cell e0 hG
      have c1 := keep_cell e1 hG
      have c2 := keep_cell e2 hG
      have c3 := keep_cell e3 hG
      have c4 := keep_cell e4 hG
      have c5 := keep_cell e5 hG
      refine wp_yields (v := gndV (some ⟨cb, 0, none⟩) cap (withPump g cell pump)) ?_ ⟨_, rfl, rfl, Below.refl _ _, hG⟩
      simp [slotOf] at h8
      simp [execOp, go_sem, h8, c0, c1, c2, c3, c4, c5]
    · intro a W hG hR hO hp
      have h4 := hO.slot 4 (by kernel_rfl)
      have c0 := keep_cell d0 hG
      refine wp_yields (v := .slice D days.length dp) ?_ ⟨_, rfl, rfl, Below.refl _ _, hG⟩
      simp [slotOf] at h4
      simp [execOp, go_sem, h4, c0]
    · intro a W hG hR hO hp
      refine wp_enters (f := 55) (args := #[]) ?_ ((most_any _).mono ?_)
      · skip
        simp [go_sem]
      · rintro e w' ⟨rfl, hb⟩
        exact ⟨_, rfl, _, rfl, rfl, hb, below_next hG hb⟩
    · intro a W hG hR hO hp
      have h8 := hO.slot 8 (by kernel_rfl)
      have c0 := keep_cell e0 hG
      have c1 := keep_cell e1 hG
      have c2 := keep_cell e2 hG
      have c3 := keep_cell e3 hG
      have c4 := keep_cell e4 hG
      have c5 := keep_cell e5 hG
      refine wp_yields (v := gndV (some ⟨cb, 0, none⟩) cap (withPump g cell pump)) ?_ ⟨_, rfl, rfl, Below.refl _ _, hG⟩
      simp [slotOf] at h8
      simp [execOp, go_sem, h8, c0, c1, c2, c3, c4, c5]
    · intro a W hG hR hO hp
      have h4 := hO.slot 4 (by kernel_rfl)
      have c0 := keep_cell d0 hG
      refine wp_yields (v := .slice D days.length dp) ?_ ⟨_, rfl, rfl, Below.refl _ _, hG⟩
      simp [slotOf] at h4
      simp [execOp, go_sem, h4, c0]
    · intro a W hG hR hO hp
      have h24 : slotOf a 24 = choiceV true := hp.1
      have h25 : slotOf a 25 = gndV (some ⟨cb, 0, none⟩) cap (withPump g cell pump) := hp.2.1
      have h26 : slotOf a 26 = .slice D days.length dp := hp.2.2.1
      refine wp_enters (f := 54) (args := #[choiceV true, gndV (some ⟨cb, 0, none⟩) cap (withPump g cell pump), .slice D days.length dp]) ?_ ((truth_end true (withPump g cell pump) (some ⟨cb, 0, none⟩) cap days D dp W hn7 (by omega) ((HC.out.below hG).more hG.size) ((HD.out.below hG).more hG.size)).mono ?_)
      · simp [slotOf] at h24 h25 h26
        simp [go_sem, h24, h25, h26]
      · rintro e w' ⟨L, lp, R, rp, rfl, h2, h3, hb, h4, h5⟩
        exact ⟨_, rfl, _, rfl, ⟨L, lp, R, rp, rfl, h2, h3, fun a e => Nat.le_trans hG.size (h4 a e), fun a e => Nat.le_trans hG.size (h5 a e)⟩, hb, below_next hG hb⟩
    · intro a W hG hR hO hp
      have h22 : slotOf a 22 = gndV (some ⟨cb, 0, none⟩) cap (withPump g cell pump) := hp.1
      have h23 : slotOf a 23 = .slice D days.length dp := hp.2.1
      have h27 := hp.2.2.1
      obtain ⟨L, lp, R, rp, h27, h2, h3, h4, h5⟩ := h27
      refine wp_enters (f := 52) (args := #[gndV (some ⟨cb, 0, none⟩) cap (withPump g cell pump), .slice D days.length dp, truthV (endOf true (withPump g cell pump).slo (withPump g cell pump).shi) (endOf true (withPump g cell pump).klo (withPump g cell pump).khi) L (withPump g cell pump).cells.length lp R days.length rp]) ?_ ((begin_end true (withPump g cell pump) (some ⟨cb, 0, none⟩) cap days D dp L lp R rp W hn8 ((HC.out.below hG).more hG.size) ((HD.out.below hG).more hG.size) h2 h3).mono ?_)
      · simp [slotOf] at h22 h23 h27
        simp [go_sem, h22, h23, h27]
      · rintro e w' ⟨b, rfl, hb1, hb2, hb⟩
        exact ⟨_, rfl, _, rfl, ⟨b, L, lp, R, rp, rfl, Nat.le_trans hG.size hb1, hb2, h4, h5⟩, hb, below_next hG hb⟩
    · intro a W hG hR hO hp
      have h2 := hO.slot 2 (by kernel_rfl)
      have c0 := keep_cell c0 hG
      refine wp_yields (v := .int .i64 cell) ?_ ⟨_, rfl, rfl, Below.refl _ _, hG⟩
      simp [slotOf] at h2
      simp [execOp, go_sem, h2, c0]
    · intro a W hG hR hO hp
      have h5 := hO.slot 5 (by kernel_rfl)
      have c0 := keep_cell l0 hG
      refine wp_yields (v := .int .i64 level) ?_ ⟨_, rfl, rfl, Below.refl _ _, hG⟩
      simp [slotOf] at h5
      simp [execOp, go_sem, h5, c0]
    · intro a W hG hR hO hp
      have h30 : slotOf a 30 = .int .i64 level := hp.1
      refine wp_yields (v := .int .i64 (level + 1)) ?_ ⟨_, rfl, rfl, Below.refl _ _, hG⟩
      simp [slotOf] at h30
      simp [execOp, go_sem, h30, hlv]
  · intro W hG hR
    rintro _ rfl _ rfl _ rfl _ rfl _ rfl _ ⟨_, _, _, _, rfl, hx1, hx2, hx3, hx4⟩ _ ⟨lb, L, lp, R, rp, rfl, hlb, hway, hq1, hq2⟩ _ rfl _ rfl _ rfl
    change wpList _ _ _ _ _ _
    simp only [Act.put, List.setIfInBounds_toArray, List.set_cons_zero, List.set_cons_succ, List.drop_succ_cons, List.drop_zero]
    have hfst := first_any _ _ lb cell (level + 1) W HF.out hway (by rw [show (mkWay (withPump g cell pump) (some ⟨cb, 0, none⟩) cap days D dp true L lp R rp).l = (withPump g cell pump).cells from rfl, HL.out]; exact hcell)
    have HFS := Lib.hid hfst
    have HNW := Lib.hid (And.intro hG hlb)
    clear hfst hway hG hR hx1 hx2 hx3 hx4 hq1 hq2 hlb hlv e0 e1 e2 e3 e4 e5 d0 c0 l0
    go_wp2_with (go_at_call 61; refine (HFS.out).mono ?_; rintro e w9 ⟨rfl, hg9⟩)
    go_ret
    exact ⟨rfl, (HS.out).kept (HNW.out).1 (HNW.out).2 hg9⟩

end Go.Proofs.Yteonkhohloabfaa
