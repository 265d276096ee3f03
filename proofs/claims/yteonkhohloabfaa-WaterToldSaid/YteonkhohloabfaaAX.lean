/- Picked: a truth of a valid ground with days, by some words: it fits. -/
import Derived.Test.YteonkhohloabfaaAW
import Derived.Deep.CutBlock
import Derived.Test.YteonkhohloabfaaAQ
import Derived.Test.YteonkhohloabfaaAP
namespace Go.Proofs.Yteonkhohloabfaa
open Go.RowKit Go.Shelf

def wArr (n : Nat) (f : Nat → Int) : Array Value := Array.ofFn (n := n) fun q => Value.int .u16 (f q.val)
theorem wArr_get {n : Nat} (f : Nat → Int) {k : Nat} (h : k < n) : (wArr n f)[k]? = some (.int .u16 (f k)) := by
  unfold wArr
  rw [Array.getElem?_ofFn, dif_pos h]
theorem wArr_set {n : Nat} (f f' : Nat → Int) {k : Nat} (x : Int) (he : ∀ i, i < n → f' i = if i = k then x else f i) : (wArr n f).setIfInBounds k (.int .u16 x) = wArr n f' := by
  apply Array.ext
  · simp [wArr]
  · intro q h1 h2
    have hq : q < n := by simpa [wArr] using h2
    rw [Array.getElem_setIfInBounds (by simpa [wArr] using hq)]
    simp only [wArr, Array.getElem_ofFn]
    rw [he q hq]
    by_cases e : k = q
    · subst e; rw [if_pos rfl, if_pos rfl]
    · rw [if_neg e, if_neg (Ne.symm e)]
theorem wArr_made (n : Nat) : madeCells #[Value.int .u16 0] n = wArr n (fun _ => 0) := by
  apply Array.ext
  · simp [madeCells, wArr]
  · intro q h1 h2
    simp [madeCells, wArr, Nat.mod_one]
theorem Try.info75 : (Try.prog.info? 75).map (fun i => (i.zero, i.size, i.bytes)) = some (some (.int .u16 0), 1, 2) := by kernel_rfl
theorem make_words (W : World) (n : Nat) (hn : n ≤ 3000) (z : Int) (hz : z = n) : (Instr.makeSlice 68 (.int .i64 z) (.int .i64 z)).run Try.prog W = .ok (.slice (some ⟨W.heap.size, 0, none⟩) n n) (W.alloc (.cells (wArr n (fun _ => 0)) 75)) := by
  subst hz
  obtain ⟨i0, hi0, hz0, hz1, hz2⟩ := info_parts Try.info75
  have h := run_make (P := Try.prog) W 68 75 i0 _ Try.underlying68 hi0 hz0 .i64 .i64 n n (by omega) (by omega) (by rw [hz2]; omega) (by omega)
  rw [hz1] at h
  simp only [Int.toNat_natCast, Value.cells, Nat.mul_one, wArr_made] at h
  exact h

/-- Picked under way: its boxes, the words, and the truth that it makes. -/
structure PkMid (w : World) (gcs : Array Value) (N : Nat) (f : Nat → Int) (tb : Nat) (a b : Int) (lv rn : Value) (W : World) : Prop where
  below : Below w.heap.size w W
  gb : Whole W w.heap.size 26 gcs
  rb : Whole W (w.heap.size + 1) 47 #[vi 0, vi 0, .slice none 0 0, .slice none 0 0]
  nb : Whole W (w.heap.size + 1 + 1) 75 (wArr N f)
  bt : Whole W tb 47 #[vi a, vi b, lv, rn]
  far : w.heap.size + 1 + 1 < tb
section
variable {w : World} {gcs : Array Value} {N : Nat} {f : Nat → Int} {tb : Nat} {a b : Int} {lv rn : Value} {W W' : World}
theorem PkMid.newer (h : PkMid w gcs N f tb a b lv rn W) (hb : newer W W') : PkMid w gcs N f tb a b lv rn W' :=
  ⟨below_next h.below hb, h.gb.below hb h.gb.lt, h.rb.below hb h.rb.lt, h.nb.below hb h.nb.lt, h.bt.below hb h.bt.lt, h.far⟩
theorem PkMid.grown (h : PkMid w gcs N f tb a b lv rn W) {v : Value} {n : Nat} {xs : List Value} (ho : W.ownsRow w.heap.size 3 1 v n xs) (hg : W.grownBy W' v.ownBlock) : PkMid w gcs N f tb a b lv rn W' :=
  ⟨h.below.grown hg h.below.size (own_ge ho), h.gb.grown hg (own_ne ho h.gb (by decide)).symm, h.rb.grown hg (own_ne ho h.rb (by decide)).symm, h.nb.grown hg (own_ne ho h.nb (by decide)).symm, h.bt.grown hg (own_ne ho h.bt (by decide)).symm, h.far⟩
theorem PkMid.setL (h : PkMid w gcs N f tb a b lv rn W) (u : Value) : PkMid w gcs N f tb a b u rn (W.setCell ⟨tb, 2, none⟩ u) := by
  have := h.far
  exact ⟨h.below.setCell (p := ⟨tb, 2, none⟩) (by dsimp only; omega) _, h.gb.far (by dsimp only; omega) _, h.rb.far (by dsimp only; omega) _, h.nb.far (by dsimp only; omega) _, h.bt.set 2 u, h.far⟩
theorem PkMid.setR (h : PkMid w gcs N f tb a b lv rn W) (u : Value) : PkMid w gcs N f tb a b lv u (W.setCell ⟨tb, 3, none⟩ u) := by
  have := h.far
  exact ⟨h.below.setCell (p := ⟨tb, 3, none⟩) (by dsimp only; omega) _, h.gb.far (by dsimp only; omega) _, h.rb.far (by dsimp only; omega) _, h.nb.far (by dsimp only; omega) _, h.bt.set 3 u, h.far⟩
end
/-- Picked, while it lays the words. -/
structure PkA (w : World) (gcs : Array Value) (N : Nat) (f : Nat → Int) (W : World) : Prop where
  below : Below w.heap.size w W
  gb : Whole W w.heap.size 26 gcs
  rb : Whole W (w.heap.size + 1) 47 #[vi 0, vi 0, .slice none 0 0, .slice none 0 0]
  nb : Whole W (w.heap.size + 1 + 1) 75 (wArr N f)
theorem PkA.set {w : World} {gcs : Array Value} {N : Nat} {f : Nat → Int} {W : World} (h : PkA w gcs N f W) (i : Nat) (x : Int) (f' : Nat → Int) (he : ∀ j, j < N → f' j = if j = i then x else f j) : PkA w gcs N f' (W.setCell ⟨w.heap.size + 1 + 1, i, none⟩ (.int .u16 x)) := by
  refine ⟨h.below.setCell (p := ⟨w.heap.size + 1 + 1, i, none⟩) (by dsimp only; omega) _, h.gb.far (by dsimp only; omega) _, h.rb.far (by dsimp only; omega) _, ?_⟩
  have := h.nb.set i (.int .u16 x)
  rw [wArr_set f f' x he] at this
  exact this
theorem PkA.newer {w : World} {gcs : Array Value} {N : Nat} {f : Nat → Int} {W W' : World} (h : PkA w gcs N f W) (hb : newer W W') : PkA w gcs N f W' :=
  ⟨below_next h.below hb, h.gb.below hb h.gb.lt, h.rb.below hb h.rb.lt, h.nb.below hb h.nb.lt⟩
/-- The picks of a truth. -/
def pkL (g : Gnd) (f : Nat → Int) (j : Nat) : Int := pickN (cAt g.cells j).lo (cAt g.cells j).hi (f (2 + j))
def pkR (g : Gnd) (days : List Day) (f : Nat → Int) (j : Nat) : Int := pickN (dAt days j).lo (dAt days j).hi (f (2 + g.cells.length + j))
theorem snoc_ints (p : Nat → Int) (k : Nat) (x : Int) (h : p k = x) : ((List.range k).map p).flatMap intL ++ [vi x] = ((List.range (k + 1)).map p).flatMap intL := by
  subst h
  rw [List.range_succ, List.map_append, List.flatMap_append]
  rfl
theorem iAt_range (p : Nat → Int) {n j : Nat} (h : j < n) : iAt ((List.range n).map p) j = p j := by simp [iAt, h]
theorem picks_fit {g : Gnd} {days : List Day} (f : Nat → Int) (hf : faultN g days = 0) : fitsB g days (pickN g.slo g.shi (f 0)) (pickN g.klo g.khi (f 1)) ((List.range g.cells.length).map (pkL g f)) ((List.range days.length).map (pkR g days f)) = true := by
  have ok := wayOk_end false hf
  obtain ⟨h1, _, _⟩ := fault_zero hf
  simp only [gndB, Bool.and_eq_true, inB, upB, decide_eq_true_eq] at h1
  obtain ⟨⟨⟨⟨⟨_, _⟩, hs⟩, hk⟩, _⟩, _⟩ := h1
  have a := pickN_in (x := f 0) (show g.slo ≤ g.shi by omega)
  have b := pickN_in (x := f 1) (show g.klo ≤ g.khi by omega)
  simp only [fitsB, Bool.and_eq_true, inB, decide_eq_true_eq, List.length_map, List.length_range]
  refine ⟨⟨⟨⟨⟨trivial, trivial⟩, a⟩, b⟩, goodB_true fun j hj => ?_⟩, goodB_true fun j hj => ?_⟩
  · simp only [lvB, inB, Bool.and_eq_true, decide_eq_true_eq]
    rw [iAt_range _ hj]
    exact pickN_in (ok.cells j hj).lohi
  · simp only [rnB, inB, Bool.and_eq_true, decide_eq_true_eq]
    rw [iAt_range _ hj]
    exact pickN_in (ok.ds j hj).lohi
/-- What Picked leaves: a truth that fits. -/
def pickedOut (w : World) (g : Gnd) (days : List Day) (e : Ending) (w' : World) : Prop :=
  (∃ snow soak lv rn v, e = .returned v ∧ vTr snow soak lv rn v w' ∧ fitsB g days snow soak lv rn = true) ∧ Below w.heap.size w w'

/-- A truth in rows of its own. -/
def vTrO (snow soak : Int) (lv rn : List Int) (v : Value) (W : World) : Prop := ∃ base L lp R rp, v = truthV snow soak L lv.length lp R rn.length rp ∧ W.ownsRow base 3 1 (.slice L lv.length lp) lv.length (lv.flatMap intL) ∧ W.ownsRow base 3 1 (.slice R rn.length rp) rn.length (rn.flatMap intL)
theorem vTrO_st {snow soak : Int} {lv rn : List Int} : ∀ v W W', vTrO snow soak lv rn v W → newer W W' → vTrO snow soak lv rn v W' := fun _ _ _ ⟨base, L, lp, R, rp, h1, h2, h3⟩ hb => ⟨base, L, lp, R, rp, h1, own_below h2 hb, own_below h3 hb⟩
theorem vTrO_tr {snow soak : Int} {lv rn : List Int} {v : Value} {W : World} (h : vTrO snow soak lv rn v W) : vTr snow soak lv rn v W := by
  obtain ⟨base, L, lp, R, rp, h1, h2, h3⟩ := h
  exact ⟨L, lp, R, rp, h1, row_of_own (by omega) (fun _ => rfl) h2, row_of_own (by omega) (fun _ => rfl) h3⟩
def pickedOwn (w : World) (g : Gnd) (days : List Day) (e : Ending) (w' : World) : Prop :=
  (∃ snow soak lv rn v, e = .returned v ∧ vTrO snow soak lv rn v w' ∧ fitsB g days snow soak lv rn = true) ∧ Below w.heap.size w w'
set_option maxRecDepth 100000 in
set_option maxHeartbeats 2000000 in
theorem picked_own (g : Gnd) (A : Option Addr) (ap : Nat) (days : List Day) (D : Option Addr) (dp : Nat) (ws : List Word) (V : Option Addr) (vp : Nat) (w : World) (hf : faultN g days = 0) (hl : ws.length ≤ maxLen) (hc : Row cellL 7 w w.heap.size A g.cells) (hd : Row dayL 3 w w.heap.size D days) (hv : Row wordL 1 w w.heap.size V ws) :
    Calls Try.prog 37 #[gndV A ap g, .slice D days.length dp, .slice V ws.length vp] w (pickedOwn w g days) := by
  have hn8 := (fault_cells hf).2
  have hm30 := (fault_zero hf).2.1
  have ok := wayOk_end false hf
  have hgb := (fault_zero hf).1
  simp only [gndB, Bool.and_eq_true, inB, upB, decide_eq_true_eq] at hgb
  obtain ⟨⟨⟨⟨⟨_, _⟩, hs⟩, hk⟩, _⟩, _⟩ := hgb
  have HF := Lib.hid hf
  have HOK := Lib.hid ok
  have HC := Lib.hid hc
  have HD := Lib.hid hd
  have HV := Lib.hid hv
  obtain ⟨i0, hi0, hz0, hz1, hz2⟩ := info_parts Try.info3
  have HI := Lib.hid (And.intro hi0 (And.intro hz0 (And.intro hz1 hz2)))
  clear hi0 hz0 hz1 hz2 hf ok hc hd hv
  obtain ⟨N, hN1, hN2⟩ : ∃ N, N ≤ 2 + g.cells.length + days.length ∧ 2 + g.cells.length + days.length ≤ N := ⟨_, Nat.le_refl _, Nat.le_refl _⟩
  have hw1 : IntKind.i64.wrap (2 + (g.cells.length : Int)) = 2 + (g.cells.length : Int) := IntWalk.i64_in _ (by omega)
  have hw2 : IntKind.i64.wrap (2 + (g.cells.length : Int) + days.length) = 2 + (g.cells.length : Int) + days.length := IntWalk.i64_in _ (by omega)
  have hmk := fun W => make_words W N (by omega) (2 + (g.cells.length : Int) + days.length) (by omega)
  go_enter Try.func37, Try.ntmps37
  go_upto_block 0 with fail
  have H0 : Hid (PkA w (gndC A ap g) N (fun _ => 0) (((w.alloc (.cells (gndC A ap g) 26)).alloc (.cells #[vi 0, vi 0, .slice none 0 0, .slice none 0 0] 47)).alloc (.cells (wArr N (fun _ => 0)) 75))) := by
    refine ⟨(((Below.refl _ _).alloc (Nat.le_refl _) _).alloc (by simp) _).alloc (by simp; omega) _, ?_, ?_, ?_⟩
    · (simp only [Whole, heap_if, World.size_alloc]; (repeat rw [if_neg (by omega)]); rfl)
    · (simp only [Whole, heap_if, World.size_alloc]; (repeat rw [if_neg (by omega)]); rfl)
    · (simp only [Whole, heap_if, World.size_alloc]; (repeat rw [if_neg (by omega)]); rfl)
  clear hmk hw2
  go_cut [9] (fun s9 wx => ∃ f : Nat → Int, (∀ q, 0 ≤ f q ∧ f q ≤ 65535) ∧ PkA w (gndC A ap g) N f wx)
  case first =>
    go_wp2_with fail
    go_loopw [9] (fun s9 wr => ∃ (i : Nat) (f : Nat → Int), i ≤ N ∧ s9 = .int .i64 i ∧ (∀ q, 0 ≤ f q ∧ f q ≤ 65535) ∧ PkA w (gndC A ap g) N f wr) (fun s9 _ => N - (intOf s9).toNat)
    case atStart => exact ⟨0, fun _ => 0, Nat.zero_le _, rfl, fun _ => ⟨Int.le_refl _, show (0 : Int) ≤ 65535 by decide⟩, H0.out⟩
    case round =>
      obtain ⟨i, f, hi, rfl, hfb, hmid⟩ := hrel
      clear H0
      have HFB := Lib.hid hfb
      by_cases hgo : i < N ∧ 0 < ws.length
      · obtain ⟨hlt, hws⟩ := hgo
        have hiN : (i : Int) < N := by omega
        have hws0 : (0 : Int) < ws.length := by omega
        obtain ⟨q, hq⟩ : ∃ q, q = i % ws.length := ⟨_, rfl⟩
        have hql : q < ws.length := by rw [hq]; exact Nat.mod_lt _ hws
        obtain ⟨x, hx⟩ := get_of_lt hql
        obtain ⟨b, off, e, _, hcx⟩ := (HV.out.below hmid.below) (ne_nil_of_get hx)
        have c0 := hcx q x hx 0 _ rfl
        simp only [Nat.mul_one, Nat.add_zero] at c0
        subst e
        have hq1 : (i : Int).tmod ws.length = (q : Int) := by rw [Int.tmod_eq_emod_of_nonneg (by omega), hq]; rfl
        have hq2 : IntKind.i64.wrap (q : Int) = q := IntWalk.i64_in _ (by unfold maxLen at hl; omega)
        have hq3 : (q : Int) < ws.length := by omega
        have hq4 : ¬ ((ws.length : Int) = 0) := by omega
        have fz := hmid.nb.free i
        have cz := hmid.nb.at i (wArr_get f hlt)
        have HM := Lib.hid (hmid.set i x.n (fun j => if j = i then x.n else f j) (fun j _ => rfl))
        have HX := Lib.hid (And.intro x.lo x.hi)
        clear hmid hcx hq
        go_wp2_with fail
        refine ⟨⟨i + 1, _, by omega, by go_num, fun j => ?_, HM.out⟩, by (simp only [intOf]; omega)⟩
        split
        · exact HX.out
        · exact HFB.out j
      · have HM := Lib.hid hmid
        clear hmid hfb
        rcases (show (i < N ∧ ws.length = 0) ∨ ¬ i < N by omega) with ⟨h1, h2⟩ | h1
        · have h1' : (i : Int) < N := by omega
          have h2' : ¬ ((0 : Int) < ws.length) := by omega
          clear h1 h2 hgo
          go_wp2_with fail
          go_meet
          exact ⟨f, HFB.out, HM.out⟩
        · have h1' : ¬ ((i : Int) < N) := by omega
          clear h1 hgo
          go_wp2_with fail
          go_meet
          exact ⟨f, HFB.out, HM.out⟩
  case rest =>
    obtain ⟨f, hfb, hA⟩ := hcut
    have HFB := Lib.hid hfb
    clear H0 hfb
    go_upto_region 7 with fail
    refine genQ (PkA w (gndC A ap g) N f) hA ?_
    clear hA
    intro wv hA
    have g1 := hA.gb.at 1 (v := vi g.slo) rfl
    have g2 := hA.gb.at 2 (v := vi g.shi) rfl
    have g3 := hA.gb.at 3 (v := vi g.klo) rfl
    have g4 := hA.gb.at 4 (v := vi g.khi) rfl
    have n0 := hA.nb.at 0 (wArr_get f (by omega))
    have n1 := hA.nb.at 1 (wArr_get f (by omega))
    have hNz : ¬ (N = 0) := by omega
    have hN1i : (1 : Int) < N := by omega
    have hnlt := hA.nb.lt
    have HA := Lib.hid hA
    clear hA
    refine wp_words (by kernel_rfl) (region_told 14 (by kernel_rfl) (by kernel_rfl) (fun W => Below wv.heap.size wv W) newer (pickD [vIs (.pointer (some ⟨w.heap.size, 1, none⟩)), vIs (.agg #[vi g.slo, vi g.shi]), vIs (.slice (some ⟨w.heap.size + 1 + 1, 0, none⟩) N N), vIs (.pointer (some ⟨w.heap.size + 1 + 1, 0, none⟩)), vIs (.int .u16 (f 0)), vIs (vi (pickN (g.slo) (g.shi) (f 0))), vIs (.pointer (some ⟨w.heap.size, 3, none⟩)), vIs (.agg #[vi g.klo, vi g.khi]), vIs (.slice (some ⟨w.heap.size + 1 + 1, 0, none⟩) N N), vIs (.pointer (some ⟨w.heap.size + 1 + 1, 1, none⟩)), vIs (.int .u16 (f 1)), vIs (vi (pickN (g.klo) (g.khi) (f 1))), vIs (.agg #[vi (pickN g.slo g.shi (f 0)), vi (pickN g.klo g.khi (f 1)), .slice none 0 0, .slice none 0 0]), vNew wv.heap.size 47 #[vi 0, vi 0, .slice none 0 0, .slice none 0 0]]) (fun h k => newer_trans h k) (pickD_stable _ ⟨vIs_st, vIs_st, vIs_st, vIs_st, vIs_st, vIs_st, vIs_st, vIs_st, vIs_st, vIs_st, vIs_st, vIs_st, vIs_st, vNew_st, trivial⟩) (Below.refl _ wv).drew (Below.refl _ _) ?_ ?_)
    · refine ⟨?_, ?_, ?_, ?_, ?_, ?_, ?_, ?_, ?_, ?_, ?_, ?_, ?_, ?_, trivial⟩
      · intro a W hG hR hO hp
        have h3 := hO.slot 3 (by kernel_rfl)
        refine wp_yields (v := .pointer (some ⟨w.heap.size, 1, none⟩)) ?_ ⟨_, rfl, rfl, Below.refl _ _, hG⟩
        simp [slotOf] at h3
        simp [execOp, go_sem, h3]
      · intro a W hG hR hO hp
        have h42 : slotOf a 42 = .pointer (some ⟨w.heap.size, 1, none⟩) := hp.1
        have c0 := keep_cell g1 hG
        have c1 := keep_cell g2 hG
        refine wp_yields (v := .agg #[vi g.slo, vi g.shi]) ?_ ⟨_, rfl, rfl, Below.refl _ _, hG⟩
        simp [slotOf] at h42
        simp [execOp, go_sem, h42, c0, c1]
      · intro a W hG hR hO hp
        have h8 := hO.slot 8 (by kernel_rfl)
        refine wp_yields (v := .slice (some ⟨w.heap.size + 1 + 1, 0, none⟩) N N) ?_ ⟨_, rfl, rfl, Below.refl _ _, hG⟩
        simp [slotOf] at h8
        simp [execOp, go_sem, h8]
      · intro a W hG hR hO hp
        have h44 : slotOf a 44 = .slice (some ⟨w.heap.size + 1 + 1, 0, none⟩) N N := hp.1
        refine wp_yields (v := .pointer (some ⟨w.heap.size + 1 + 1, 0, none⟩)) ?_ ⟨_, rfl, rfl, Below.refl _ _, hG⟩
        simp [slotOf] at h44
        simp [execOp, go_sem, h44, hNz]
      · intro a W hG hR hO hp
        have h45 : slotOf a 45 = .pointer (some ⟨w.heap.size + 1 + 1, 0, none⟩) := hp.1
        have c0 := keep_cell n0 hG
        refine wp_yields (v := .int .u16 (f 0)) ?_ ⟨_, rfl, rfl, Below.refl _ _, hG⟩
        simp [slotOf] at h45
        simp [execOp, go_sem, h45, c0]
      · intro a W hG hR hO hp
        have h43 : slotOf a 43 = .agg #[vi g.slo, vi g.shi] := hp.1
        have h46 : slotOf a 46 = .int .u16 (f 0) := hp.2.1
        refine wp_enters (f := 47) (args := #[.agg #[vi (g.slo), vi (g.shi)], .int .u16 (f 0)]) ?_ ((pick_any (g.slo) (g.shi) (f 0) W (by omega) (by omega) (by omega) (HFB.out 0).1 (HFB.out 0).2).mono ?_)
        · simp [slotOf] at h43 h46
          simp [go_sem, h43, h46]
        · rintro e w' ⟨rfl, hb⟩
          exact ⟨_, rfl, _, rfl, rfl, hb, below_next hG hb⟩
      · intro a W hG hR hO hp
        have h3 := hO.slot 3 (by kernel_rfl)
        refine wp_yields (v := .pointer (some ⟨w.heap.size, 3, none⟩)) ?_ ⟨_, rfl, rfl, Below.refl _ _, hG⟩
        simp [slotOf] at h3
        simp [execOp, go_sem, h3]
      · intro a W hG hR hO hp
        have h48 : slotOf a 48 = .pointer (some ⟨w.heap.size, 3, none⟩) := hp.1
        have c0 := keep_cell g3 hG
        have c1 := keep_cell g4 hG
        refine wp_yields (v := .agg #[vi g.klo, vi g.khi]) ?_ ⟨_, rfl, rfl, Below.refl _ _, hG⟩
        simp [slotOf] at h48
        simp [execOp, go_sem, h48, c0, c1]
      · intro a W hG hR hO hp
        have h8 := hO.slot 8 (by kernel_rfl)
        refine wp_yields (v := .slice (some ⟨w.heap.size + 1 + 1, 0, none⟩) N N) ?_ ⟨_, rfl, rfl, Below.refl _ _, hG⟩
        simp [slotOf] at h8
        simp [execOp, go_sem, h8]
      · intro a W hG hR hO hp
        have h50 : slotOf a 50 = .slice (some ⟨w.heap.size + 1 + 1, 0, none⟩) N N := hp.1
        refine wp_yields (v := .pointer (some ⟨w.heap.size + 1 + 1, 1, none⟩)) ?_ ⟨_, rfl, rfl, Below.refl _ _, hG⟩
        simp [slotOf] at h50
        simp [execOp, go_sem, h50, hN1i]
      · intro a W hG hR hO hp
        have h51 : slotOf a 51 = .pointer (some ⟨w.heap.size + 1 + 1, 1, none⟩) := hp.1
        have c0 := keep_cell n1 hG
        refine wp_yields (v := .int .u16 (f 1)) ?_ ⟨_, rfl, rfl, Below.refl _ _, hG⟩
        simp [slotOf] at h51
        simp [execOp, go_sem, h51, c0]
      · intro a W hG hR hO hp
        have h49 : slotOf a 49 = .agg #[vi g.klo, vi g.khi] := hp.1
        have h52 : slotOf a 52 = .int .u16 (f 1) := hp.2.1
        refine wp_enters (f := 47) (args := #[.agg #[vi (g.klo), vi (g.khi)], .int .u16 (f 1)]) ?_ ((pick_any (g.klo) (g.khi) (f 1) W (by omega) (by omega) (by omega) (HFB.out 1).1 (HFB.out 1).2).mono ?_)
        · simp [slotOf] at h49 h52
          simp [go_sem, h49, h52]
        · rintro e w' ⟨rfl, hb⟩
          exact ⟨_, rfl, _, rfl, rfl, hb, below_next hG hb⟩
      · intro a W hG hR hO hp
        have h47 : slotOf a 47 = vi (pickN (g.slo) (g.shi) (f 0)) := hp.1
        have h53 : slotOf a 53 = vi (pickN (g.klo) (g.khi) (f 1)) := hp.2.1
        refine wp_yields (v := .agg #[vi (pickN g.slo g.shi (f 0)), vi (pickN g.klo g.khi (f 1)), .slice none 0 0, .slice none 0 0]) ?_ ⟨_, rfl, rfl, Below.refl _ _, hG⟩
        simp [slotOf] at h47 h53
        simp [execOp, go_sem, h47, h53]
      · intro a W hG hR hO hp
        refine wp_makes (v := .pointer (some ⟨W.heap.size, 0, none⟩)) (W' := W.alloc (.cells #[vi 0, vi 0, .slice none 0 0, .slice none 0 0] 47)) ?_ ⟨_, rfl, ⟨_, rfl, hG.size, Whole.made _ _ _⟩, (Below.refl _ _).alloc (Nat.le_refl _) _, hG.alloc hG.size _⟩
        skip
        simp [execOp, go_sem]
    · intro W hG hR
      rintro _ rfl _ rfl _ rfl _ rfl _ rfl _ rfl _ rfl _ rfl _ rfl _ rfl _ rfl _ rfl _ rfl _ ⟨tb, rfl, htb, hW⟩
      change wpList _ _ _ _ _ _
      simp only [Act.put, List.setIfInBounds_toArray, List.set_cons_zero, List.set_cons_succ, List.drop_succ_cons, List.drop_zero]
      have HM : Hid (PkMid w (gndC A ap g) N f tb (pickN g.slo g.shi (f 0)) (pickN g.klo g.khi (f 1)) (.slice none 0 0) (.slice none 0 0) ((((W.setCell ⟨tb, 0, none⟩ (vi (pickN g.slo g.shi (f 0)))).setCell ⟨tb, 1, none⟩ (vi (pickN g.klo g.khi (f 1)))).setCell ⟨tb, 2, none⟩ (.slice none 0 0)).setCell ⟨tb, 3, none⟩ (.slice none 0 0))) := by
        have ha := HA.out.newer hG
        have hq : w.heap.size + 1 + 1 < tb := by omega
        refine ⟨(((ha.below.setCell (p := ⟨tb, 0, none⟩) (by dsimp only; omega) _).setCell (p := ⟨tb, 1, none⟩) (by dsimp only; omega) _).setCell (p := ⟨tb, 2, none⟩) (by dsimp only; omega) _).setCell (p := ⟨tb, 3, none⟩) (by dsimp only; omega) _, ?_, ?_, ?_, ?_, hq⟩
        · exact (((ha.gb.far (by dsimp only; omega) _).far (by dsimp only; omega) _).far (by dsimp only; omega) _).far (by dsimp only; omega) _
        · exact (((ha.rb.far (by dsimp only; omega) _).far (by dsimp only; omega) _).far (by dsimp only; omega) _).far (by dsimp only; omega) _
        · exact (((ha.nb.far (by dsimp only; omega) _).far (by dsimp only; omega) _).far (by dsimp only; omega) _).far (by dsimp only; omega) _
        · exact (((hW.set 0 _).set 1 _).set 2 _).set 3 _
      have x0 := hW.at 0 rfl
      have x1 := hW.at 1 rfl
      have x2 := hW.at 2 rfl
      have x3 := hW.at 3 rfl
      have f0 := hW.free 0
      have f1 := hW.free 1
      have f2 := hW.free 2
      have f3 := hW.free 3
      clear hG hR hW htb HA g1 g2 g3 g4 n0 n1 hNz hN1i hnlt
      go_wp2_with fail
      clear x0 x1 x2 x3 f0 f1 f2 f3
      go_loopw [11] (fun s11 wr => ∃ k : Nat, k ≤ g.cells.length ∧ s11 = .int .i64 k ∧ ∃ lv, PkMid w (gndC A ap g) N f tb (pickN g.slo g.shi (f 0)) (pickN g.klo g.khi (f 1)) lv (.slice none 0 0) wr ∧ wr.ownsRow w.heap.size 3 1 lv k (((List.range k).map (pkL g f)).flatMap intL)) (fun s11 _ => g.cells.length - (intOf s11).toNat)
      case atStart => exact ⟨0, Nat.zero_le _, rfl, _, HM.out, by simp, .inl ⟨rfl, rfl⟩⟩
      case round =>
        obtain ⟨k, hk, rfl, lv, hmid, hown⟩ := hrel
        clear HM
        by_cases hlt : k < g.cells.length
        · obtain ⟨c, hck⟩ := get_of_lt hlt
          have hcb := HOK.out.cells k hlt
          rw [cAt_of hck] at hcb
          have hb1 := hcb.lo1
          have hb2 := hcb.lohi
          have hb3 := hcb.hi2
          have hb4 := hcb.cap2
          obtain ⟨b, off, rfl, hb, h0, h1, _, _, _, _, _⟩ := row7 (HC.out.below hmid.below) hck
          have g0 := hmid.gb.at 0 (v := .slice (some ⟨b, off, none⟩) g.cells.length ap) rfl
          obtain ⟨L3, lp3, rfl⟩ := own_form hown
          have e2 := hmid.bt.at 2 rfl
          obtain ⟨j, hj1, hj2⟩ : ∃ j : Nat, j ≤ 2 + k ∧ 2 + k ≤ j := ⟨_, Nat.le_refl _, Nat.le_refl _⟩
          have HJ := Lib.hid (show j = 2 + k by omega)
          have hwk : IntKind.i64.wrap (2 + (k : Int)) = (j : Int) := by rw [IntWalk.i64_in _ (by omega)]; omega
          have hik : (j : Int) < N := by omega
          have nk := hmid.nb.at j (wArr_get f (by omega))
          have hkn : (k : Int) < g.cells.length := by omega
          have HM := Lib.hid hmid
          have HO := Lib.hid hown
          have HCK := Lib.hid hck
          have hfar := hmid.far
          clear hmid hown hck hcb
          go_wp2_with fail
          refine wp_words (by kernel_rfl) (region_told 16 (by kernel_rfl) (by kernel_rfl) (fun W => Below wr.heap.size wr W) newer (pickD [vIs (.pointer (some ⟨tb, 2, none⟩)), vIs (.slice L3 k lp3), vIs (.pointer (some ⟨w.heap.size, 0, none⟩)), vIs (.slice (some ⟨b, off, none⟩) g.cells.length ap), vIs (.int .i64 k), vIs (.pointer (some ⟨b, off + k * 7, none⟩)), vIs (.pointer (some ⟨b, off + k * 7, none⟩)), vIs (.agg #[vi c.lo, vi c.hi]), vIs (.slice (some ⟨w.heap.size + 1 + 1, 0, none⟩) N N), vIs (.int .i64 2), vIs (.int .i64 k), vIs (.int .i64 j), vIs (.pointer (some ⟨w.heap.size + 1 + 1, j, none⟩)), vIs (.int .u16 (f j)), vIs (vi (pickN (c.lo) (c.hi) (f j))), vOne wr.heap.size 3 #[vi (pickN c.lo c.hi (f j))]]) (fun h k => newer_trans h k) (pickD_stable _ ⟨vIs_st, vIs_st, vIs_st, vIs_st, vIs_st, vIs_st, vIs_st, vIs_st, vIs_st, vIs_st, vIs_st, vIs_st, vIs_st, vIs_st, vIs_st, vOne_st, trivial⟩) (Below.refl _ wr).drew (Below.refl _ _) ?_ ?_)
          · refine ⟨?_, ?_, ?_, ?_, ?_, ?_, ?_, ?_, ?_, ?_, ?_, ?_, ?_, ?_, ?_, ?_, trivial⟩
            · intro a W hG hR hO hp
              have h10 := hO.slot 10 (by kernel_rfl)
              refine wp_yields (v := .pointer (some ⟨tb, 2, none⟩)) ?_ ⟨_, rfl, rfl, Below.refl _ _, hG⟩
              simp [slotOf] at h10
              simp [execOp, go_sem, h10]
            · intro a W hG hR hO hp
              have h62 : slotOf a 62 = .pointer (some ⟨tb, 2, none⟩) := hp.1
              have c0 := keep_cell e2 hG
              refine wp_yields (v := .slice L3 k lp3) ?_ ⟨_, rfl, rfl, Below.refl _ _, hG⟩
              simp [slotOf] at h62
              simp [execOp, go_sem, h62, c0]
            · intro a W hG hR hO hp
              have h3 := hO.slot 3 (by kernel_rfl)
              refine wp_yields (v := .pointer (some ⟨w.heap.size, 0, none⟩)) ?_ ⟨_, rfl, rfl, Below.refl _ _, hG⟩
              simp [slotOf] at h3
              simp [execOp, go_sem, h3]
            · intro a W hG hR hO hp
              have h64 : slotOf a 64 = .pointer (some ⟨w.heap.size, 0, none⟩) := hp.1
              have c0 := keep_cell g0 hG
              refine wp_yields (v := .slice (some ⟨b, off, none⟩) g.cells.length ap) ?_ ⟨_, rfl, rfl, Below.refl _ _, hG⟩
              simp [slotOf] at h64
              simp [execOp, go_sem, h64, c0]
            · intro a W hG hR hO hp
              have h11 := hO.slot 11 (by kernel_rfl)
              refine wp_yields (v := .int .i64 k) ?_ ⟨_, rfl, rfl, Below.refl _ _, hG⟩
              simp [slotOf] at h11
              simp [execOp, go_sem, h11]
            · intro a W hG hR hO hp
              have h65 : slotOf a 65 = .slice (some ⟨b, off, none⟩) g.cells.length ap := hp.1
              have h66 : slotOf a 66 = .int .i64 k := hp.2.1
              refine wp_yields (v := .pointer (some ⟨b, off + k * 7, none⟩)) ?_ ⟨_, rfl, rfl, Below.refl _ _, hG⟩
              simp [slotOf] at h65 h66
              simp [execOp, go_sem, h65, h66, hkn]
            · intro a W hG hR hO hp
              have h67 : slotOf a 67 = .pointer (some ⟨b, off + k * 7, none⟩) := hp.1
              refine wp_yields (v := .pointer (some ⟨b, off + k * 7, none⟩)) ?_ ⟨_, rfl, rfl, Below.refl _ _, hG⟩
              simp [slotOf] at h67
              simp [execOp, go_sem, h67]
            · intro a W hG hR hO hp
              have h68 : slotOf a 68 = .pointer (some ⟨b, off + k * 7, none⟩) := hp.1
              have c0 := keep_cell h0 hG
              have c1 := keep_cell h1 hG
              refine wp_yields (v := .agg #[vi c.lo, vi c.hi]) ?_ ⟨_, rfl, rfl, Below.refl _ _, hG⟩
              simp [slotOf] at h68
              simp [execOp, go_sem, h68, c0, c1]
            · intro a W hG hR hO hp
              have h8 := hO.slot 8 (by kernel_rfl)
              refine wp_yields (v := .slice (some ⟨w.heap.size + 1 + 1, 0, none⟩) N N) ?_ ⟨_, rfl, rfl, Below.refl _ _, hG⟩
              simp [slotOf] at h8
              simp [execOp, go_sem, h8]
            · intro a W hG hR hO hp
              have h7 := hO.slot 7 (by kernel_rfl)
              refine wp_yields (v := .int .i64 2) ?_ ⟨_, rfl, rfl, Below.refl _ _, hG⟩
              simp [slotOf] at h7
              simp [execOp, go_sem, h7]
            · intro a W hG hR hO hp
              have h11 := hO.slot 11 (by kernel_rfl)
              refine wp_yields (v := .int .i64 k) ?_ ⟨_, rfl, rfl, Below.refl _ _, hG⟩
              simp [slotOf] at h11
              simp [execOp, go_sem, h11]
            · intro a W hG hR hO hp
              have h71 : slotOf a 71 = .int .i64 2 := hp.1
              have h72 : slotOf a 72 = .int .i64 k := hp.2.1
              refine wp_yields (v := .int .i64 j) ?_ ⟨_, rfl, rfl, Below.refl _ _, hG⟩
              simp [slotOf] at h71 h72
              simp [execOp, go_sem, h71, h72, hwk]
            · intro a W hG hR hO hp
              have h70 : slotOf a 70 = .slice (some ⟨w.heap.size + 1 + 1, 0, none⟩) N N := hp.1
              have h73 : slotOf a 73 = .int .i64 j := hp.2.1
              refine wp_yields (v := .pointer (some ⟨w.heap.size + 1 + 1, j, none⟩)) ?_ ⟨_, rfl, rfl, Below.refl _ _, hG⟩
              simp [slotOf] at h70 h73
              simp [execOp, go_sem, h70, h73, hik]
            · intro a W hG hR hO hp
              have h74 : slotOf a 74 = .pointer (some ⟨w.heap.size + 1 + 1, j, none⟩) := hp.1
              have c0 := keep_cell nk hG
              refine wp_yields (v := .int .u16 (f j)) ?_ ⟨_, rfl, rfl, Below.refl _ _, hG⟩
              simp [slotOf] at h74
              simp [execOp, go_sem, h74, c0]
            · intro a W hG hR hO hp
              have h69 : slotOf a 69 = .agg #[vi c.lo, vi c.hi] := hp.1
              have h75 : slotOf a 75 = .int .u16 (f j) := hp.2.1
              refine wp_enters (f := 47) (args := #[.agg #[vi (c.lo), vi (c.hi)], .int .u16 (f j)]) ?_ ((pick_any (c.lo) (c.hi) (f j) W (by omega) (by omega) (by omega) (HFB.out j).1 (HFB.out j).2).mono ?_)
              · simp [slotOf] at h69 h75
                simp [go_sem, h69, h75]
              · rintro e w' ⟨rfl, hb⟩
                exact ⟨_, rfl, _, rfl, rfl, hb, below_next hG hb⟩
            · intro a W hG hR hO hp
              have h76 : slotOf a 76 = vi (pickN (c.lo) (c.hi) (f j)) := hp.1
              refine wp_makes (v := .slice (some ⟨W.heap.size, 0, none⟩) 1 1) (W' := W.alloc (.cells #[vi (pickN c.lo c.hi (f j))] 3)) ?_ ⟨_, rfl, ⟨_, rfl, hG.size, Whole.made _ _ _⟩, (Below.refl _ _).alloc (Nat.le_refl _) _, hG.alloc hG.size _⟩
              simp [slotOf] at h76
              simp [execOp, go_sem, h76]
          · intro W hG hR
            rintro _ rfl _ rfl _ rfl _ rfl _ rfl _ rfl _ rfl _ rfl _ rfl _ rfl _ rfl _ rfl _ rfl _ rfl _ rfl _ ⟨nb, rfl, hnb, hW⟩
            change wpList _ _ _ _ _ _
            simp only [Act.put, List.setIfInBounds_toArray, List.set_cons_zero, List.set_cons_succ, List.drop_succ_cons, List.drop_zero]
            obtain ⟨hi0, hz0, hz1, hz2⟩ := HI.out
            have hm6 := HM.out.newer hG
            have ho6 := own_below HO.out hG
            refine wpList_append_lies _ rfl (.tmp 63) (.tmp 77) 43 rfl w.heap.size 3 i0 (.int .i64 0) 1 8 Try.underlying43 hi0 hz0 hz1 hz2 rfl (by omega) _ k _ rfl ho6 ⟨nb, 0, none⟩ 1 1 [vi (pickN c.lo c.hi (f j))] rfl rfl (World.news_of_block hW) (by simp [Value.oneCell']) (by omega) (by unfold maxLen; omega) (by omega) hm6.below.size W.heap.size rfl ?_
            intro gg cap w1 hown1 hgrow hat hlt1
            rw [snoc_ints (pkL g f) k _ (by unfold pkL; rw [cAt_of HCK.out, ← HJ.out])] at hown1
            have hm7 := hm6.grown ho6 hgrow
            have x2 := hm7.bt.at 2 rfl
            have f2 := hm7.bt.free 2
            have HR := Lib.hid (And.intro (hm7.setL (.slice (some ⟨gg, 0, none⟩) (k + 1) cap)) (own_set (i := 2) hown1 (own_ne hown1 hm7.bt (by decide)) (.slice (some ⟨gg, 0, none⟩) (k + 1) cap)))
            clear hm7 hm6 ho6 hown1 hgrow hat hlt1 hW hG hR hi0 hz0 hz1 hz2 HM HO g0 e2 h0 h1 nk
            go_wp2_with fail
            go_roundw
            case rel => exact ⟨k + 1, by omega, by go_num, _, HR.out.1, HR.out.2⟩
            case measure => simp [intOf]; omega
        · obtain rfl : k = g.cells.length := by omega
          have g0 := hmid.gb.at 0 (v := .slice A g.cells.length ap) rfl
          have HM := Lib.hid hmid
          have HO := Lib.hid hown
          clear hmid hown
          go_wp2_with fail
          clear g0
          go_loopw [12] (fun s12 wr => ∃ k : Nat, k ≤ days.length ∧ s12 = .int .i64 k ∧ ∃ rn, PkMid w (gndC A ap g) N f tb (pickN g.slo g.shi (f 0)) (pickN g.klo g.khi (f 1)) lv rn wr ∧ wr.ownsRow w.heap.size 3 1 lv g.cells.length (((List.range g.cells.length).map (pkL g f)).flatMap intL) ∧ wr.ownsRow w.heap.size 3 1 rn k (((List.range k).map (pkR g days f)).flatMap intL) ∧ ∀ q, lv.ownBlock = some q → rn.ownBlock ≠ some q) (fun s12 _ => days.length - (intOf s12).toNat)
          case atStart => exact ⟨0, Nat.zero_le _, rfl, _, HM.out, HO.out, ⟨by simp, .inl ⟨rfl, rfl⟩⟩, fun q _ e => by simp [Value.ownBlock] at e⟩
          case round =>
            obtain ⟨k, hk, rfl, rn, hmid, howl, hown, hap⟩ := hrel
            clear HM HO
            by_cases hlt : k < days.length
            · obtain ⟨d, hdk⟩ := get_of_lt hlt
              have hdb := HOK.out.ds k hlt
              rw [dAt_of hdk] at hdb
              have hb1 := hdb.lo0
              have hb2 := hdb.lohi
              have hb3 := hdb.hi1
              obtain ⟨b, off, rfl, hb, h0, h1, _⟩ := row3 (HD.out.below hmid.below) hdk
              obtain ⟨L3, lp3, rfl⟩ := own_form hown
              have e2 := hmid.bt.at 3 rfl
              obtain ⟨j, hj1, hj2⟩ : ∃ j : Nat, j ≤ 2 + g.cells.length + k ∧ 2 + g.cells.length + k ≤ j := ⟨_, Nat.le_refl _, Nat.le_refl _⟩
              have HJ := Lib.hid (show j = 2 + g.cells.length + k by omega)
              have hwk : IntKind.i64.wrap (2 + (g.cells.length : Int) + (k : Int)) = (j : Int) := by rw [IntWalk.i64_in _ (by omega)]; omega
              have hik : (j : Int) < N := by omega
              have nk := hmid.nb.at j (wArr_get f (by omega))
              have hkn : (k : Int) < days.length := by omega
              have HM := Lib.hid hmid
              have HL := Lib.hid howl
              have HO := Lib.hid hown
              have HAP := Lib.hid hap
              have HLT := Lib.hid (own_lt howl)
              have HDK := Lib.hid hdk
              have hfar := hmid.far
              clear hmid howl hown hap hdk hdb
              go_wp2_with fail
              refine wp_words (by kernel_rfl) (region_told 15 (by kernel_rfl) (by kernel_rfl) (fun W => Below wr.heap.size wr W) newer (pickD [vIs (.pointer (some ⟨tb, 3, none⟩)), vIs (.slice L3 k lp3), vIs (.slice (some ⟨b, off, none⟩) days.length dp), vIs (.int .i64 k), vIs (.pointer (some ⟨b, off + k * 3, none⟩)), vIs (.pointer (some ⟨b, off + k * 3, none⟩)), vIs (.agg #[vi d.lo, vi d.hi]), vIs (.slice (some ⟨w.heap.size + 1 + 1, 0, none⟩) N N), vIs (.int .i64 (2 + (g.cells.length : Int))), vIs (.int .i64 k), vIs (.int .i64 j), vIs (.pointer (some ⟨w.heap.size + 1 + 1, j, none⟩)), vIs (.int .u16 (f j)), vIs (vi (pickN (d.lo) (d.hi) (f j))), vOne wr.heap.size 3 #[vi (pickN d.lo d.hi (f j))]]) (fun h k => newer_trans h k) (pickD_stable _ ⟨vIs_st, vIs_st, vIs_st, vIs_st, vIs_st, vIs_st, vIs_st, vIs_st, vIs_st, vIs_st, vIs_st, vIs_st, vIs_st, vIs_st, vOne_st, trivial⟩) (Below.refl _ wr).drew (Below.refl _ _) ?_ ?_)
              · refine ⟨?_, ?_, ?_, ?_, ?_, ?_, ?_, ?_, ?_, ?_, ?_, ?_, ?_, ?_, ?_, trivial⟩
                · intro a W hG hR hO hp
                  have h10 := hO.slot 10 (by kernel_rfl)
                  refine wp_yields (v := .pointer (some ⟨tb, 3, none⟩)) ?_ ⟨_, rfl, rfl, Below.refl _ _, hG⟩
                  simp [slotOf] at h10
                  simp [execOp, go_sem, h10]
                · intro a W hG hR hO hp
                  have h91 : slotOf a 91 = .pointer (some ⟨tb, 3, none⟩) := hp.1
                  have c0 := keep_cell e2 hG
                  refine wp_yields (v := .slice L3 k lp3) ?_ ⟨_, rfl, rfl, Below.refl _ _, hG⟩
                  simp [slotOf] at h91
                  simp [execOp, go_sem, h91, c0]
                · intro a W hG hR hO hp
                  have h1 := hO.slot 1 (by kernel_rfl)
                  refine wp_yields (v := .slice (some ⟨b, off, none⟩) days.length dp) ?_ ⟨_, rfl, rfl, Below.refl _ _, hG⟩
                  simp [slotOf] at h1
                  simp [execOp, go_sem, h1]
                · intro a W hG hR hO hp
                  have h12 := hO.slot 12 (by kernel_rfl)
                  refine wp_yields (v := .int .i64 k) ?_ ⟨_, rfl, rfl, Below.refl _ _, hG⟩
                  simp [slotOf] at h12
                  simp [execOp, go_sem, h12]
                · intro a W hG hR hO hp
                  have h93 : slotOf a 93 = .slice (some ⟨b, off, none⟩) days.length dp := hp.1
                  have h94 : slotOf a 94 = .int .i64 k := hp.2.1
                  refine wp_yields (v := .pointer (some ⟨b, off + k * 3, none⟩)) ?_ ⟨_, rfl, rfl, Below.refl _ _, hG⟩
                  simp [slotOf] at h93 h94
                  simp [execOp, go_sem, h93, h94, hkn]
                · intro a W hG hR hO hp
                  have h95 : slotOf a 95 = .pointer (some ⟨b, off + k * 3, none⟩) := hp.1
                  refine wp_yields (v := .pointer (some ⟨b, off + k * 3, none⟩)) ?_ ⟨_, rfl, rfl, Below.refl _ _, hG⟩
                  simp [slotOf] at h95
                  simp [execOp, go_sem, h95]
                · intro a W hG hR hO hp
                  have h96 : slotOf a 96 = .pointer (some ⟨b, off + k * 3, none⟩) := hp.1
                  have c0 := keep_cell h0 hG
                  have c1 := keep_cell h1 hG
                  refine wp_yields (v := .agg #[vi d.lo, vi d.hi]) ?_ ⟨_, rfl, rfl, Below.refl _ _, hG⟩
                  simp [slotOf] at h96
                  simp [execOp, go_sem, h96, c0, c1]
                · intro a W hG hR hO hp
                  have h8 := hO.slot 8 (by kernel_rfl)
                  refine wp_yields (v := .slice (some ⟨w.heap.size + 1 + 1, 0, none⟩) N N) ?_ ⟨_, rfl, rfl, Below.refl _ _, hG⟩
                  simp [slotOf] at h8
                  simp [execOp, go_sem, h8]
                · intro a W hG hR hO hp
                  have h7 := hO.slot 7 (by kernel_rfl)
                  refine wp_yields (v := .int .i64 (2 + (g.cells.length : Int))) ?_ ⟨_, rfl, rfl, Below.refl _ _, hG⟩
                  simp [slotOf] at h7
                  simp [execOp, go_sem, h7]
                · intro a W hG hR hO hp
                  have h12 := hO.slot 12 (by kernel_rfl)
                  refine wp_yields (v := .int .i64 k) ?_ ⟨_, rfl, rfl, Below.refl _ _, hG⟩
                  simp [slotOf] at h12
                  simp [execOp, go_sem, h12]
                · intro a W hG hR hO hp
                  have h99 : slotOf a 99 = .int .i64 (2 + (g.cells.length : Int)) := hp.1
                  have h100 : slotOf a 100 = .int .i64 k := hp.2.1
                  refine wp_yields (v := .int .i64 j) ?_ ⟨_, rfl, rfl, Below.refl _ _, hG⟩
                  simp [slotOf] at h99 h100
                  simp [execOp, go_sem, h99, h100, hwk]
                · intro a W hG hR hO hp
                  have h98 : slotOf a 98 = .slice (some ⟨w.heap.size + 1 + 1, 0, none⟩) N N := hp.1
                  have h101 : slotOf a 101 = .int .i64 j := hp.2.1
                  refine wp_yields (v := .pointer (some ⟨w.heap.size + 1 + 1, j, none⟩)) ?_ ⟨_, rfl, rfl, Below.refl _ _, hG⟩
                  simp [slotOf] at h98 h101
                  simp [execOp, go_sem, h98, h101, hik]
                · intro a W hG hR hO hp
                  have h102 : slotOf a 102 = .pointer (some ⟨w.heap.size + 1 + 1, j, none⟩) := hp.1
                  have c0 := keep_cell nk hG
                  refine wp_yields (v := .int .u16 (f j)) ?_ ⟨_, rfl, rfl, Below.refl _ _, hG⟩
                  simp [slotOf] at h102
                  simp [execOp, go_sem, h102, c0]
                · intro a W hG hR hO hp
                  have h97 : slotOf a 97 = .agg #[vi d.lo, vi d.hi] := hp.1
                  have h103 : slotOf a 103 = .int .u16 (f j) := hp.2.1
                  refine wp_enters (f := 47) (args := #[.agg #[vi (d.lo), vi (d.hi)], .int .u16 (f j)]) ?_ ((pick_any (d.lo) (d.hi) (f j) W (by omega) (by omega) (by omega) (HFB.out j).1 (HFB.out j).2).mono ?_)
                  · simp [slotOf] at h97 h103
                    simp [go_sem, h97, h103]
                  · rintro e w' ⟨rfl, hb⟩
                    exact ⟨_, rfl, _, rfl, rfl, hb, below_next hG hb⟩
                · intro a W hG hR hO hp
                  have h104 : slotOf a 104 = vi (pickN (d.lo) (d.hi) (f j)) := hp.1
                  refine wp_makes (v := .slice (some ⟨W.heap.size, 0, none⟩) 1 1) (W' := W.alloc (.cells #[vi (pickN d.lo d.hi (f j))] 3)) ?_ ⟨_, rfl, ⟨_, rfl, hG.size, Whole.made _ _ _⟩, (Below.refl _ _).alloc (Nat.le_refl _) _, hG.alloc hG.size _⟩
                  simp [slotOf] at h104
                  simp [execOp, go_sem, h104]
              · intro W hG hR
                rintro _ rfl _ rfl _ rfl _ rfl _ rfl _ rfl _ rfl _ rfl _ rfl _ rfl _ rfl _ rfl _ rfl _ rfl _ ⟨nb, rfl, hnb, hW⟩
                change wpList _ _ _ _ _ _
                simp only [Act.put, List.setIfInBounds_toArray, List.set_cons_zero, List.set_cons_succ, List.drop_succ_cons, List.drop_zero]
                obtain ⟨hi0, hz0, hz1, hz2⟩ := HI.out
                have hm6 := HM.out.newer hG
                have ho6 := own_below HO.out hG
                have hl6 := own_below HL.out hG
                have hsz := hG.size
                refine wpList_append_lies _ rfl (.tmp 92) (.tmp 105) 43 rfl w.heap.size 3 i0 (.int .i64 0) 1 8 Try.underlying43 hi0 hz0 hz1 hz2 rfl (by omega) _ k _ rfl ho6 ⟨nb, 0, none⟩ 1 1 [vi (pickN d.lo d.hi (f j))] rfl rfl (World.news_of_block hW) (by simp [Value.oneCell']) (by omega) (by unfold maxLen; omega) (by omega) hm6.below.size W.heap.size rfl ?_
                intro gg cap w1 hown1 hgrow hat hlt1
                rw [snoc_ints (pkR g days f) k _ (by unfold pkR; rw [dAt_of HDK.out, ← HJ.out])] at hown1
                have hm7 := hm6.grown ho6 hgrow
                have hl7 := hl6.kept hgrow (apart_row HAP.out)
                have x2 := hm7.bt.at 3 rfl
                have f2 := hm7.bt.free 3
                have HA2 : Hid (∀ q, lv.ownBlock = some q → (Value.slice (some ⟨gg, 0, none⟩) (k + 1) cap).ownBlock ≠ some q) := by
                  refine Lib.hid fun q e e2 => ?_
                  have e3 : gg = q := by simpa [Value.ownBlock] using e2
                  rcases hat with h | h
                  · exact HAP.out q e ((show (Value.slice L3 k lp3).ownBlock = some gg from h).trans (by rw [e3]))
                  · have := HLT.out q e
                    omega
                have HR := Lib.hid (And.intro (hm7.setR (.slice (some ⟨gg, 0, none⟩) (k + 1) cap)) (And.intro (own_set (i := 3) hl7 (own_ne hl7 hm7.bt (by decide)) (.slice (some ⟨gg, 0, none⟩) (k + 1) cap)) (own_set (i := 3) hown1 (own_ne hown1 hm7.bt (by decide)) (.slice (some ⟨gg, 0, none⟩) (k + 1) cap))))
                clear hm7 hm6 ho6 hl6 hl7 hown1 hgrow hat hlt1 hW hG hR hi0 hz0 hz1 hz2 HM HO HL HAP e2 h0 h1 nk
                go_wp2_with fail
                go_roundw
                case rel => exact ⟨k + 1, by omega, by go_num, _, HR.out.1, HR.out.2.1, HR.out.2.2, HA2.out⟩
                case measure => simp [intOf]; omega
            · obtain rfl : k = days.length := by omega
              obtain ⟨L, lp, rfl⟩ := own_form howl
              obtain ⟨R, rp, rfl⟩ := own_form hown
              have x0 := hmid.bt.at 0 rfl
              have x1 := hmid.bt.at 1 rfl
              have x2 := hmid.bt.at 2 rfl
              have x3 := hmid.bt.at 3 rfl
              have r0 := hmid.rb.at 0 rfl
              have r1 := hmid.rb.at 1 rfl
              have r2 := hmid.rb.at 2 rfl
              have r3 := hmid.rb.at 3 rfl
              have f0 := hmid.rb.free 0
              have f1 := hmid.rb.free 1
              have f2 := hmid.rb.free 2
              have f3 := hmid.rb.free 3
              have hfar := hmid.far
              have HM := Lib.hid hmid
              have HL := Lib.hid howl
              have HO := Lib.hid hown
              clear hmid howl hown hap
              go_wp2_with fail
              have hm := HM.out
              have c := (((hm.rb.set 0 (vi (pickN g.slo g.shi (f 0)))).set 1 (vi (pickN g.klo g.khi (f 1)))).set 2 (.slice L g.cells.length lp)).set 3 (.slice R days.length rp)
              have c0 := c.at 0 rfl
              have c1 := c.at 1 rfl
              have c2 := c.at 2 rfl
              have c3 := c.at 3 rfl
              have hst : ∀ v n xs, wr.ownsRow w.heap.size 3 1 v n xs → ((((wr.setCell ⟨w.heap.size + 1, 0, none⟩ (vi (pickN g.slo g.shi (f 0)))).setCell ⟨w.heap.size + 1, 1, none⟩ (vi (pickN g.klo g.khi (f 1)))).setCell ⟨w.heap.size + 1, 2, none⟩ (.slice L g.cells.length lp)).setCell ⟨w.heap.size + 1, 3, none⟩ (.slice R days.length rp)).ownsRow w.heap.size 3 1 v n xs := fun v n xs h =>
                have ne := own_ne h hm.rb (by decide)
                own_set (own_set (own_set (own_set h ne _) ne _) ne _) ne _
              have hbl : Below w.heap.size w ((((wr.setCell ⟨w.heap.size + 1, 0, none⟩ (vi (pickN g.slo g.shi (f 0)))).setCell ⟨w.heap.size + 1, 1, none⟩ (vi (pickN g.klo g.khi (f 1)))).setCell ⟨w.heap.size + 1, 2, none⟩ (.slice L g.cells.length lp)).setCell ⟨w.heap.size + 1, 3, none⟩ (.slice R days.length rp)) :=
                (((hm.below.setCell (p := ⟨w.heap.size + 1, 0, none⟩) (by dsimp only; omega) _).setCell (p := ⟨w.heap.size + 1, 1, none⟩) (by dsimp only; omega) _).setCell (p := ⟨w.heap.size + 1, 2, none⟩) (by dsimp only; omega) _).setCell (p := ⟨w.heap.size + 1, 3, none⟩) (by dsimp only; omega) _
              exact bodyPost_ret (v := truthV (pickN g.slo g.shi (f 0)) (pickN g.klo g.khi (f 1)) L g.cells.length lp R days.length rp) (by simp [results, Try.results37, go_sem, c0, c1, c2, c3]) rfl ⟨⟨_, _, (List.range g.cells.length).map (pkL g f), (List.range days.length).map (pkR g days f), _, rfl, ⟨w.heap.size, L, lp, R, rp, by simp, by rw [List.length_map, List.length_range]; exact hst _ _ _ HL.out, by rw [List.length_map, List.length_range]; exact hst _ _ _ HO.out⟩, picks_fit f HF.out⟩, hbl⟩
theorem picked_any (g : Gnd) (A : Option Addr) (ap : Nat) (days : List Day) (D : Option Addr) (dp : Nat) (ws : List Word) (V : Option Addr) (vp : Nat) (w : World) (hf : faultN g days = 0) (hl : ws.length ≤ maxLen) (hc : Row cellL 7 w w.heap.size A g.cells) (hd : Row dayL 3 w w.heap.size D days) (hv : Row wordL 1 w w.heap.size V ws) :
    Calls Try.prog 37 #[gndV A ap g, .slice D days.length dp, .slice V ws.length vp] w (pickedOut w g days) :=
  (picked_own g A ap days D dp ws V vp w hf hl hc hd hv).mono fun _ _ ⟨⟨a, b, c, d, v, h1, h2, h3⟩, h4⟩ => ⟨⟨a, b, c, d, v, h1, vTrO_tr h2, h3⟩, h4⟩
end Go.Proofs.Yteonkhohloabfaa
