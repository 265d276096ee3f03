/- What the last text of this chain needs: WkAA, WkAD, WkAT, WkAW, WkAJ, WkAN, WkAO, WkAK, WkBC, WkBD, WkBJ, WkBK, P, A. -/
import Derived.Test.YtcdhhfgpdokkoaaZH04
namespace Go.Proofs.Ytcdhhfgpdokkoaa
section
open Go.RowKit Go.Deep
theorem Try.info4 : (Try.prog.info? 4).map (fun i => (i.zero, i.size, i.bytes)) = some (some (.bool false), 1, 1) := by kernel_rfl
theorem Try.info67 : (Try.prog.info? 67).map (fun i => (i.zero, i.size, i.bytes)) = some (some (.agg #[vi 0, vi 0]), 2, 16) := by kernel_rfl
theorem Try.info78 : (Try.prog.info? 78).map (fun i => (i.zero, i.size, i.bytes)) = some (some (.agg #[vi 0, vi 0, vi 0, vi 0, vi 0, .slice none 0 0]), 6, 64) := by kernel_rfl
theorem Try.info79 : (Try.prog.info? 79).map (fun i => (i.zero, i.size, i.bytes)) = some (some (.agg #[vi 0, vi 0, vi 0]), 3, 24) := by kernel_rfl
def vBld (B : Nat) (p : Pm) (v : Value) (W : World) : Prop := ∃ V vc Q qc, v = .agg #[vi p.years, vi p.slopes, .slice none 0 0, .slice none 0 0, .slice V p.vs.length vc, .slice Q p.ps.length qc] /\ W.ownsRow B 4 1 (.slice V p.vs.length vc) p.vs.length (p.vs.flatMap boL) /\ W.ownsRow B 3 1 (.slice Q p.ps.length qc) p.ps.length (p.ps.flatMap intL)
theorem vBld_st {B : Nat} {p : Pm} : ∀ v W W', vBld B p v W -> newer W W' -> vBld B p v W' := fun _ _ _ ⟨V, vc, Q, qc, h1, h2, h3⟩ hb => ⟨V, vc, Q, qc, h1, own_below h2 hb, own_below h3 hb⟩
set_option maxRecDepth 100000 in
set_option maxHeartbeats 1000000 in
theorem lawListO (l : List Int) (A : Option Addr) (cp : Nat) (w : World) (hl : l.length <= 1000) (hr : Row intL 1 w w.heap.size A l) : Calls Try.prog 30 #[.slice A l.length cp] w fun e w' => (∃ A' c, e = .returned (.slice A' l.length c) /\ w'.ownsRow w.heap.size 3 1 (.slice A' l.length c) l.length (l.flatMap intL)) /\ newer w w' := by
 have HR := Lib.hid (row_alloc hr (.cells #[] 3))
 obtain ⟨i0, hi0, hz0, hz1, hz2⟩ := info_parts Try.info3w
 have HI := Lib.hid (And.intro hi0 (And.intro hz0 (And.intro hz1 hz2)))
 clear hr hi0 hz0 hz1 hz2
 go_enter Try.func30, Try.ntmps30
 go_wp2_with (at_builtin; go_loud ((refine wpList_plain rfl fun K hK => wp_append_owncopy (enc := intL) (size := 1) w.heap.size (.tmp 3) (.tmp 4) 26 3 i0 (.int .i64 0) 8 Try.underlying26 HI.out.1 HI.out.2.1 HI.out.2.2.1 HI.out.2.2.2 rfl (by omega) (by omega) (fun _ => rfl) rfl w.heap.size rfl (Nat.le_refl _) (Whole.made _ _ _) l A cp rfl hl HR.out (by simp) fun B c w' hB hb hc => hK _ _ ?_); have HB := Lib.hid (And.intro hB ((((Below.refl w.heap.size w).alloc (Nat.le_refl _) (.cells #[] 3))).trans (hb.mono (by simp)))); clear hB hb hc))
 go_ret
 exact ⟨⟨_, _, rfl, HB.out.1⟩, HB.out.2⟩
structure PrA (p : Pm) (w : World) (ob : Nat) (V : Option Addr) (vc : Nat) (Q : Option Addr) (qc : Nat) (sv : Value) (xs : List Wk) (nv : Value) (ns : List Nd) (W : World) : Prop where
 nw : newer w W
 b0 : Whole W w.heap.size 28 (pmC p)
 b1 : Whole W (w.heap.size + 1) 55 #[vi 0, vi 0, .slice none 0 0, .slice none 0 0, .slice none 0 0, .slice none 0 0]
 oz : Whole W ob 55 #[vi p.years, vi p.slopes, sv, nv, .slice V p.vs.length vc, .slice Q p.ps.length qc]
 lo : w.heap.size + 1 < ob
 ws : W.ownsRow w.heap.size 78 6 sv xs.length (xs.flatMap wkL)
 ad : ∀ x ∈ xs, W.ownsRow w.heap.size 67 2 (.slice x.a x.d.adds.length x.cp) x.d.adds.length (x.d.adds.flatMap rgLW)
 ns : W.ownsRow w.heap.size 79 3 nv ns.length (ns.flatMap ndL)
 vs : W.ownsRow w.heap.size 4 1 (.slice V p.vs.length vc) p.vs.length (p.vs.flatMap boL)
 ps : W.ownsRow w.heap.size 3 1 (.slice Q p.ps.length qc) p.ps.length (p.ps.flatMap intL)
section
variable {p : Pm} {w W W' : World} {ob : Nat} {V Q : Option Addr} {vc qc : Nat} {sv nv : Value} {xs : List Wk} {ns : List Nd}
theorem PrA.next (h : PrA p w ob V vc Q qc sv xs nv ns W) (hb : newer W W') : PrA p w ob V vc Q qc sv xs nv ns W' :=
 ⟨newer_trans h.nw hb, h.b0.below hb h.b0.lt, h.b1.below hb h.b1.lt, h.oz.below hb h.oz.lt, h.lo, own_below h.ws hb, fun x hx => own_below (h.ad x hx) hb, own_below h.ns hb, own_below h.vs hb, own_below h.ps hb⟩
theorem PrA.addW (h : PrA p w ob V vc Q qc sv xs nv ns W) (hg : W.grownBy W' sv.ownBlock) {sv' : Value} {x : Wk} (ho : W'.ownsRow w.heap.size 78 6 sv' (xs.length + 1) (xs.flatMap wkL ++ wkL x)) (ha : W.ownsRow w.heap.size 67 2 (.slice x.a x.d.adds.length x.cp) x.d.adds.length (x.d.adds.flatMap rgLW)) :
  PrA p w ob V vc Q qc sv' (xs ++ [x]) nv ns (W'.setCell ⟨ob, 2, none⟩ sv') := by
 have o1 : Whole W' ob 55 _ := h.oz.grown hg (own_ne h.ws h.oz (by decide)).symm
 have far : ∀ {e : TypeId} {s n : Nat} {v : Value} {ys : List Value}, W.ownsRow w.heap.size e s v n ys -> e ≠ 78 -> e ≠ 55 -> (W'.setCell ⟨ob, 2, none⟩ sv').ownsRow w.heap.size e s v n ys := fun hv h1 h2 => by
  have h3 := hv.kept hg (own_apart hv h.ws h1)
  exact own_set h3 (own_ne h3 o1 h2) _
 have hs := h.nw.size
 refine ⟨?_, (h.b0.grown hg (own_ne h.ws h.b0 (by decide)).symm).far (p := ⟨ob, 2, none⟩) (by have := h.lo; dsimp only; omega) _, (h.b1.grown hg (own_ne h.ws h.b1 (by decide)).symm).far (p := ⟨ob, 2, none⟩) (by have := h.lo; dsimp only; omega) _, o1.set 2 sv', h.lo, ?_, ?_, far h.ns (by decide) (by decide), far h.vs (by decide) (by decide), far h.ps (by decide) (by decide)⟩
 ·exact (h.nw.grown hg hs (own_ge h.ws)).setCell (p := ⟨ob, 2, none⟩) (by have := h.lo; dsimp only; omega) _
 ·have e1 : (xs ++ [x]).flatMap wkL = xs.flatMap wkL ++ wkL x := by simp
  rw [List.length_append, e1]
  exact own_set ho (own_ne ho o1 (by decide)) _
 ·intro y hy
  rcases List.mem_append.1 hy with hy | hy
  ·exact far (h.ad y hy) (by decide) (by decide)
  ·obtain rfl := List.mem_singleton.1 hy
   exact far ha (by decide) (by decide)
theorem PrA.addN (h : PrA p w ob V vc Q qc sv xs nv ns W) (hg : W.grownBy W' nv.ownBlock) {nv' : Value} {n : Nd} (ho : W'.ownsRow w.heap.size 79 3 nv' (ns.length + 1) (ns.flatMap ndL ++ ndL n)) :
  PrA p w ob V vc Q qc sv xs nv' (ns ++ [n]) (W'.setCell ⟨ob, 3, none⟩ nv') := by
 have o1 : Whole W' ob 55 _ := h.oz.grown hg (own_ne h.ns h.oz (by decide)).symm
 have far : ∀ {e : TypeId} {s n : Nat} {v : Value} {ys : List Value}, W.ownsRow w.heap.size e s v n ys -> e ≠ 79 -> e ≠ 55 -> (W'.setCell ⟨ob, 3, none⟩ nv').ownsRow w.heap.size e s v n ys := fun hv h1 h2 => by
  have h3 := hv.kept hg (own_apart hv h.ns h1)
  exact own_set h3 (own_ne h3 o1 h2) _
 have hs := h.nw.size
 refine ⟨?_, (h.b0.grown hg (own_ne h.ns h.b0 (by decide)).symm).far (p := ⟨ob, 3, none⟩) (by have := h.lo; dsimp only; omega) _, (h.b1.grown hg (own_ne h.ns h.b1 (by decide)).symm).far (p := ⟨ob, 3, none⟩) (by have := h.lo; dsimp only; omega) _, o1.set 3 nv', h.lo, far h.ws (by decide) (by decide), fun y hy => far (h.ad y hy) (by decide) (by decide), ?_, far h.vs (by decide) (by decide), far h.ps (by decide) (by decide)⟩
 ·exact (h.nw.grown hg hs (own_ge h.ns)).setCell (p := ⟨ob, 3, none⟩) (by have := h.lo; dsimp only; omega) _
 ·have e1 : (ns ++ [n]).flatMap ndL = ns.flatMap ndL ++ ndL n := by simp
  rw [List.length_append, e1]
  exact own_set ho (own_ne ho o1 (by decide)) _
end
theorem own_put6W {W : World} {ob : Nat} {cs : Array Value} {base : Nat} {e : TypeId} {s n : Nat} {v : Value} {xs : List Value} (hw : Whole W ob 55 cs) (ho : W.ownsRow base e s v n xs) (hne : e ≠ 55) (u0 u1 u2 u3 u4 u5 : Value) :
  ((((((W.setCell ⟨ob, 0, none⟩ u0).setCell ⟨ob, 1, none⟩ u1).setCell ⟨ob, 2, none⟩ u2).setCell ⟨ob, 3, none⟩ u3).setCell ⟨ob, 4, none⟩ u4).setCell ⟨ob, 5, none⟩ u5).ownsRow base e s v n xs := by
 have h0 := own_set (i := 0) ho (own_ne ho hw hne) u0
 have w0 := hw.set 0 u0
 have h1 := own_set (i := 1) h0 (own_ne h0 w0 hne) u1
 have w1 := w0.set 1 u1
 have h2 := own_set (i := 2) h1 (own_ne h1 w1 hne) u2
 have w2 := w1.set 2 u2
 have h3 := own_set (i := 3) h2 (own_ne h2 w2 hne) u3
 have w3 := w2.set 3 u3
 have h4 := own_set (i := 4) h3 (own_ne h3 w3 hne) u4
 have w4 := w3.set 4 u4
 exact own_set (i := 5) h4 (own_ne h4 w4 hne) u5
set_option maxRecDepth 100000 in
set_option maxHeartbeats 4000000 in
theorem lawProject (p : Pm) (w : World) (hok : PmOk p w) (few : PmFew p) :
  Calls Try.prog 12 #[pmV p] w fun e w' => (∃ p' : Pm, e = .returned (pmV p') /\ p'.pj = p.pj /\ PmOk p' w' /\ p'.ps.length <= p'.pc) /\ newer w w' := by
 have hb1 := newer_trans (newer_allocH w (.cells (pmC p) 28)) (newer_allocH (w.alloc (.cells (pmC p) 28)) (.cells #[vi 0, vi 0, .slice none 0 0, .slice none 0 0, .slice none 0 0, .slice none 0 0] 55))
 have m0 := (Whole.made w 28 (pmC p)).alloc (.cells #[vi 0, vi 0, .slice none 0 0, .slice none 0 0, .slice none 0 0, .slice none 0 0] 55)
 have m1 := Whole.made (w.alloc (.cells (pmC p) 28)) 55 #[vi 0, vi 0, .slice none 0 0, .slice none 0 0, .slice none 0 0, .slice none 0 0]
 simp only [World.size_alloc] at m1
 have H0 := Lib.hid (And.intro hb1 (And.intro m0 m1))
 have HOK := Lib.hid hok
 have HF := Lib.hid few
 have fw := few.ws
 have fn := few.ns
 obtain ⟨i4, hi0, hz0, hz1, hz2⟩ := info_parts Try.info4
 have HI4 := Lib.hid (And.intro hi0 (And.intro hz0 (And.intro hz1 hz2)))
 clear hi0 hz0 hz1 hz2
 obtain ⟨i38, hi0, hz0, hz1, hz2⟩ := info_parts Try.info67
 have HI38 := Lib.hid (And.intro hi0 (And.intro hz0 (And.intro hz1 hz2)))
 clear hi0 hz0 hz1 hz2
 obtain ⟨i87, hi0, hz0, hz1, hz2⟩ := info_parts Try.info78
 have HI87 := Lib.hid (And.intro hi0 (And.intro hz0 (And.intro hz1 hz2)))
 clear hi0 hz0 hz1 hz2
 obtain ⟨i89, hi0, hz0, hz1, hz2⟩ := info_parts Try.info79
 have HI89 := Lib.hid (And.intro hi0 (And.intro hz0 (And.intro hz1 hz2)))
 clear hi0 hz0 hz1 hz2 hb1 m0 m1 hok few
 go_enter Try.func12, Try.ntmps12
 go_upto_region 1 with fail
 refine genQ (fun X => newer w X /\ Whole X w.heap.size 28 (pmC p) /\ Whole X (w.heap.size + 1) 55 #[vi 0, vi 0, .slice none 0 0, .slice none 0 0, .slice none 0 0, .slice none 0 0]) H0.out ?_
 clear H0
 rintro w1 ⟨hn1, m0, m1⟩
 have x0 := m0.at 0 (v := vi p.years) rfl
 have x1 := m0.at 1 (v := vi p.slopes) rfl
 have x2 := m0.at 2 (v := .slice p.wa p.ws.length p.wc) rfl
 have x3 := m0.at 3 (v := .slice p.na p.ns.length p.nc) rfl
 have x4 := m0.at 4 (v := .slice p.va p.vs.length p.vc) rfl
 have x5 := m0.at 5 (v := .slice p.pa p.ps.length p.pc) rfl
 have HN1 := Lib.hid hn1
 have H1 := Lib.hid (And.intro m0 m1)
 clear hn1 m0 m1
 refine wp_words (by kernel_rfl) (region_told 13 (by kernel_rfl) (by kernel_rfl) (fun W => Below w1.heap.size w1 W) newer (pickD [vIs (.pointer (some ⟨w.heap.size, 0, none⟩)), vIs (vi p.years), vIs (.pointer (some ⟨w.heap.size, 1, none⟩)), vIs (vi p.slopes), vEmpT w1.heap.size 4, vIs (.pointer (some ⟨w.heap.size, 4, none⟩)), vIs (.slice p.va p.vs.length p.vc), vOwn w1.heap.size 4 1 (fun b => [Value.bool b]) p.vs, vIs (.pointer (some ⟨w.heap.size, 5, none⟩)), vIs (.slice p.pa p.ps.length p.pc), vOwn w1.heap.size 3 1 intL p.ps, vBld w1.heap.size p, vNew w1.heap.size 55 #[vi 0, vi 0, .slice none 0 0, .slice none 0 0, .slice none 0 0, .slice none 0 0]]) (fun h k => newer_trans h k) (pickD_stable _ ⟨vIs_st, vIs_st, vIs_st, vIs_st, vEmpT_st, vIs_st, vIs_st, vOwn_st, vIs_st, vIs_st, vOwn_st, vBld_st, vNew_st, trivial⟩) (Below.refl _ w1).drew (Below.refl _ _) ?_ ?_)
 ·refine ⟨?_, ?_, ?_, ?_, ?_, ?_, ?_, ?_, ?_, ?_, ?_, ?_, ?_, trivial⟩
  ·intro a W hG hR hO hp; have h1 := hO.slot 1 (by kernel_rfl); refine wp_yields (v := .pointer (some ⟨w.heap.size, 0, none⟩)) ?_ ⟨_, rfl, rfl, Below.refl _ _, hG⟩; simp [slotOf] at h1; simp [execOp, go_sem, h1]
  ·intro a W hG hR hO hp; have h10 : slotOf a 10 = .pointer (some ⟨w.heap.size, 0, none⟩) := hp.1; have c0 := keep_cell x0 hG; refine wp_yields (v := vi p.years) ?_ ⟨_, rfl, rfl, Below.refl _ _, hG⟩; simp [slotOf] at h10; simp [execOp, go_sem, h10, c0]
  ·intro a W hG hR hO hp; have h1 := hO.slot 1 (by kernel_rfl); refine wp_yields (v := .pointer (some ⟨w.heap.size, 1, none⟩)) ?_ ⟨_, rfl, rfl, Below.refl _ _, hG⟩; simp [slotOf] at h1; simp [execOp, go_sem, h1]
  ·intro a W hG hR hO hp; have h12 : slotOf a 12 = .pointer (some ⟨w.heap.size, 1, none⟩) := hp.1; have c0 := keep_cell x1 hG; refine wp_yields (v := vi p.slopes) ?_ ⟨_, rfl, rfl, Below.refl _ _, hG⟩; simp [slotOf] at h12; simp [execOp, go_sem, h12, c0]
  ·intro a W hG hR hO hp; refine wp_makes (v := .slice (some ⟨W.heap.size, 0, none⟩) 0 0) (W' := W.alloc (.cells #[] 4)) ?_ ⟨_, rfl, ⟨_, rfl, hG.size, Whole.made _ _ _⟩, newer_allocH _ _, hG.alloc hG.size _⟩; skip; simp [execOp, go_sem]
  ·intro a W hG hR hO hp; have h1 := hO.slot 1 (by kernel_rfl); refine wp_yields (v := .pointer (some ⟨w.heap.size, 4, none⟩)) ?_ ⟨_, rfl, rfl, Below.refl _ _, hG⟩; simp [slotOf] at h1; simp [execOp, go_sem, h1]
  ·intro a W hG hR hO hp; have h15 : slotOf a 15 = .pointer (some ⟨w.heap.size, 4, none⟩) := hp.1; have c0 := keep_cell x4 hG; refine wp_yields (v := .slice p.va p.vs.length p.vc) ?_ ⟨_, rfl, rfl, Below.refl _ _, hG⟩; simp [slotOf] at h15; simp [execOp, go_sem, h15, c0]
  ·intro a W hG hR hO hp; have h14 := hp.1; have h16 : slotOf a 16 = .slice p.va p.vs.length p.vc := hp.2.1; obtain ⟨nb, h14, hnb, hW⟩ := h14; obtain ⟨hi0, hz0, hz1, hz2⟩ := HI4.out; refine wp_append_owncopy (enc := boL) (size := 1) w1.heap.size (.tmp 14) (.tmp 16) 25 4 i4 (.bool false) 1 Try.underlying25 hi0 hz0 hz1 hz2 rfl (by omega) (by omega) (fun _ => rfl) rfl nb ((eval_slot a 14).trans h14) hnb hW p.vs p.va p.vc ((eval_slot a 16).trans h16) HF.out.vs (HOK.out.next (newer_trans HN1.out hG)).vs hG.size ?_; intro B c w' hown hb hlt; exact ⟨_, rfl, ⟨B, c, rfl, hown⟩, hb, below_next hG hb⟩
  ·intro a W hG hR hO hp; have h1 := hO.slot 1 (by kernel_rfl); refine wp_yields (v := .pointer (some ⟨w.heap.size, 5, none⟩)) ?_ ⟨_, rfl, rfl, Below.refl _ _, hG⟩; simp [slotOf] at h1; simp [execOp, go_sem, h1]
  ·intro a W hG hR hO hp; have h18 : slotOf a 18 = .pointer (some ⟨w.heap.size, 5, none⟩) := hp.1; have c0 := keep_cell x5 hG; refine wp_yields (v := .slice p.pa p.ps.length p.pc) ?_ ⟨_, rfl, rfl, Below.refl _ _, hG⟩; simp [slotOf] at h18; simp [execOp, go_sem, h18, c0]
  ·intro a W hG hR hO hp
   have h19 : slotOf a 19 = .slice p.pa p.ps.length p.pc := hp.1
   have h19 : slotOf a 19 = .slice p.pa p.ps.length p.pc := hp.1
   refine wp_enters (f := 30) (args := #[.slice p.pa p.ps.length p.pc]) ?_ ((lawListO p.ps p.pa p.pc W HF.out.ps (HOK.out.next (newer_trans HN1.out hG)).ps).mono ?_)
   ·simp [slotOf] at h19
    simp [go_sem, h19]
   ·rintro e w' ⟨⟨A, c, rfl, h1⟩, hb⟩
    exact ⟨_, rfl, _, rfl, ⟨A, c, rfl, own_more h1 hG.size⟩, hb, below_next hG hb⟩
  ·intro a W hG hR hO hp; have h11 : slotOf a 11 = vi p.years := hp.1; have h13 : slotOf a 13 = vi p.slopes := hp.2.1; have h17 := hp.2.2.1; have h20 := hp.2.2.2.1; have h11 : slotOf a 11 = vi p.years := hp.1; have h13 : slotOf a 13 = vi p.slopes := hp.2.1; obtain ⟨V2, vc2, h17, ho1⟩ := hp.2.2.1; obtain ⟨Q2, qc2, h20, ho2⟩ := hp.2.2.2.1; refine wp_yields (v := .agg #[vi p.years, vi p.slopes, .slice none 0 0, .slice none 0 0, .slice V2 p.vs.length vc2, .slice Q2 p.ps.length qc2]) ?_ ⟨_, rfl, ⟨V2, vc2, Q2, qc2, rfl, ho1, ho2⟩, Below.refl _ _, hG⟩; simp [slotOf] at h11 h13 h17 h20; simp [execOp, go_sem, h11, h13, h17, h20]
  ·intro a W hG hR hO hp; refine wp_makes (v := .pointer (some ⟨W.heap.size, 0, none⟩)) (W' := W.alloc (.cells #[vi 0, vi 0, .slice none 0 0, .slice none 0 0, .slice none 0 0, .slice none 0 0] 55)) ?_ ⟨_, rfl, ⟨_, rfl, hG.size, Whole.made _ _ _⟩, newer_allocH _ _, hG.alloc hG.size _⟩; skip; simp [execOp, go_sem]
 ·intro W hG hR
  rintro _ rfl _ rfl _ rfl _ rfl _ hv14 _ rfl _ rfl _ ⟨V, vc, rfl, hvo⟩ _ rfl _ rfl _ ⟨Q, qc, rfl, hqo⟩ _ ⟨V2, vc2, Q2, qc2, rfl, hvo2, hqo2⟩ _ ⟨ob, rfl, hob, hwo⟩
  change wpList _ _ _ _ _ _
  simp only [Act.put, List.setIfInBounds_toArray, List.set_cons_zero, List.set_cons_succ, List.drop_succ_cons, List.drop_zero]
  have e0 := hwo.at 0 rfl
  have e1 := hwo.at 1 rfl
  have e2 := hwo.at 2 rfl
  have e3 := hwo.at 3 rfl
  have e4 := hwo.at 4 rfl
  have e5 := hwo.at 5 rfl
  have f0 := hwo.free 0
  have f1 := hwo.free 1
  have f2 := hwo.free 2
  have f3 := hwo.free 3
  have f4 := hwo.free 4
  have f5 := hwo.free 5
  have HW := Lib.hid (And.intro hG (And.intro hwo (And.intro hob (And.intro hvo2 hqo2))))
  clear hG hR hwo hob hvo hqo hvo2 hqo2 hv14 x0 x1 x2 x3 x4 x5
  go_wp2_with fail
  have HP0 : Hid (PrA p w ob V2 vc2 Q2 qc2 (.slice none 0 0) [] (.slice none 0 0) [] (((((((W).setCell ⟨ob, 0, none⟩ (vi p.years)).setCell ⟨ob, 1, none⟩ (vi p.slopes)).setCell ⟨ob, 2, none⟩ (.slice none 0 0)).setCell ⟨ob, 3, none⟩ (.slice none 0 0)).setCell ⟨ob, 4, none⟩ (.slice V2 p.vs.length vc2)).setCell ⟨ob, 5, none⟩ (.slice Q2 p.ps.length qc2))) := Lib.hid (by
   have hn : newer w1 (((((((W).setCell ⟨ob, 0, none⟩ (vi p.years)).setCell ⟨ob, 1, none⟩ (vi p.slopes)).setCell ⟨ob, 2, none⟩ (.slice none 0 0)).setCell ⟨ob, 3, none⟩ (.slice none 0 0)).setCell ⟨ob, 4, none⟩ (.slice V2 p.vs.length vc2)).setCell ⟨ob, 5, none⟩ (.slice Q2 p.ps.length qc2)) := ((((((HW.out.1).setCell (p := ⟨ob, 0, none⟩) HW.out.2.2.1 (vi p.years)).setCell (p := ⟨ob, 1, none⟩) HW.out.2.2.1 (vi p.slopes)).setCell (p := ⟨ob, 2, none⟩) HW.out.2.2.1 (.slice none 0 0)).setCell (p := ⟨ob, 3, none⟩) HW.out.2.2.1 (.slice none 0 0)).setCell (p := ⟨ob, 4, none⟩) HW.out.2.2.1 (.slice V2 p.vs.length vc2)).setCell (p := ⟨ob, 5, none⟩) HW.out.2.2.1 (.slice Q2 p.ps.length qc2)
   refine ⟨newer_trans HN1.out hn, H1.out.1.below hn H1.out.1.lt, H1.out.2.below hn H1.out.2.lt, ((((((HW.out.2.1).set 0 (vi p.years)).set 1 (vi p.slopes)).set 2 (.slice none 0 0)).set 3 (.slice none 0 0)).set 4 (.slice V2 p.vs.length vc2)).set 5 (.slice Q2 p.ps.length qc2), ?_, ⟨by simp, .inl ⟨rfl, rfl⟩⟩, fun x hx => by simp at hx, ⟨by simp, .inl ⟨rfl, rfl⟩⟩, ?_, ?_⟩
   ·have := H1.out.2.lt
    have := HW.out.2.2.1
    omega
   ·exact own_put6W HW.out.2.1 (own_more HW.out.2.2.2.1 HN1.out.size) (by decide) _ _ _ _ _ _
   ·exact own_put6W HW.out.2.1 (own_more HW.out.2.2.2.2 HN1.out.size) (by decide) _ _ _ _ _ _)
  clear HW H1 HN1 e0 e1 e2 e3 e4 e5 f0 f1 f2 f3 f4 f5
  go_loopw [4] (fun s4 wr => ∃ (k : Nat) (sv : Value) (xs : List Wk), k <= p.ws.length /\ s4 = .int .i64 k /\ xs.map (·.d) = (p.ws.take k).map (·.d) /\ PrA p w ob V2 vc2 Q2 qc2 sv xs (.slice none 0 0) [] wr) (fun s4 _ => p.ws.length - (intOf s4).toNat)
  case atStart => exact ⟨0, _, [], Nat.zero_le _, rfl, by simp, HP0.out⟩
  case round =>
   obtain ⟨k, sv, xs, hk, rfl, hxs, hpa⟩ := hrel
   clear HP0
   obtain ⟨wo, hwo⟩ : ∃ wo : World, wo = wr := ⟨_, rfl⟩
   rw [<- hwo] at hpa ⊢
   clear hwo wr
   have HPA := Lib.hid hpa
   have HXS := Lib.hid hxs
   have x2 := hpa.b0.at 2 (v := .slice p.wa p.ws.length p.wc) rfl
   clear hpa hxs
   by_cases hlt : k < p.ws.length
   ·have hkn : (k : Int) < p.ws.length := by omega
    obtain ⟨x, hx⟩ := get_of_lt hlt
    obtain ⟨b2, o2, e2, _, d0, d1, d2, d3, d4, d5⟩ := row6 (HOK.out.next HPA.out.nw).ws hx
    rw [e2] at x2
    have HX := Lib.hid hx
    have hal := HF.out.ad x (List.mem_of_getElem? hx)
    clear hx e2
    go_upto_region 6 with fail
    refine genQ (fun X => newer wo X /\ Whole X wo.heap.size 73 (wkC x)) ⟨newer_allocH _ _, Whole.made _ _ _⟩ ?_
    obtain ⟨rb, hrb⟩ : ∃ rb, rb = wo.heap.size := ⟨_, rfl⟩
    rw [<- hrb]
    clear hrb d0 d1 d2 d3 d4 d5 x2
    rintro w2 ⟨hn2, hwx⟩
    have y0 := hwx.at 0 (v := vi x.d.price) rfl
    have y1 := hwx.at 1 (v := vi x.d.first) rfl
    have y2 := hwx.at 2 (v := vi x.d.last) rfl
    have y3 := hwx.at 3 (v := vi x.d.age) rfl
    have y4 := hwx.at 4 (v := vi x.d.village) rfl
    have HB2 := Lib.hid (And.intro hn2 hwx)
    clear hn2 hwx
    go_upto_region 7 with fail
    refine genQ (fun X => newer w2 X /\ Whole X w2.heap.size 78 #[vi x.d.price, vi x.d.first, vi x.d.last, vi x.d.age, vi x.d.village, .slice none 0 0]) ⟨newer_allocH _ _, Whole.made _ _ _⟩ ?_
    obtain ⟨xb, hxb⟩ : ∃ xb, xb = w2.heap.size := ⟨_, rfl⟩
    rw [<- hxb]
    clear y0 y1 y2 y3 y4
    rintro w3 ⟨hn3, hwx⟩
    have HB3 := Lib.hid (And.intro (newer_trans HB2.out.1 hn3) (And.intro (HB2.out.2.below hn3 HB2.out.2.lt) hwx))
    have hxbo : wo.heap.size <= xb := by rw [hxb]; exact HB2.out.1.size
    have HXBO := Lib.hid (And.intro hxbo (show rb < xb by rw [hxb]; exact HB2.out.2.lt))
    clear hn3 hwx hxb HB2 hxbo
    go_wp2_with fail
    go_loopw [7] (fun s7 wr => ∃ (j : Nat) (s : Value), j <= x.d.adds.length /\ s7 = .int .i64 j /\ newer wo wr /\ Whole wr rb 73 (wkC x) /\ Whole wr xb 78 #[vi x.d.price, vi x.d.first, vi x.d.last, vi x.d.age, vi x.d.village, s] /\ wr.ownsRow wo.heap.size 67 2 s j ((x.d.adds.take j).flatMap rgLW)) (fun s7 _ => x.d.adds.length - (intOf s7).toNat)
    case atStart => exact ⟨0, _, Nat.zero_le _, rfl, HB3.out.1, HB3.out.2.1, HB3.out.2.2, by simp, .inl ⟨rfl, rfl⟩⟩
    case round =>
     obtain ⟨j, s, hj, rfl, hbw, hrw, hxw, hown⟩ := hrel
     clear HB3
     obtain ⟨sA, sc, rfl⟩ := own_form hown
     have HB := Lib.hid (And.intro hbw (And.intro hrw (And.intro hxw hown)))
     have d5 := hrw.at 5 (v := .slice x.a x.d.adds.length x.cp) rfl
     have e5 := hxw.at 5 (v := .slice sA j sc) rfl
     by_cases hlt2 : j < x.d.adds.length
     ·have hjn : (j : Int) < x.d.adds.length := by omega
      obtain ⟨r, hr⟩ := get_of_lt hlt2
      obtain ⟨b3, o3, e3, _, c0, c1⟩ := row2 ((HOK.out.next (newer_trans HPA.out.nw hbw)).ad x (List.mem_of_getElem? HX.out)) hr
      rw [e3] at d5
      have HRG := Lib.hid hr
      clear hbw hrw hxw hown hr e3
      go_upto_region 10 with fail
      refine wp_words (by kernel_rfl) (region_told 16 (by kernel_rfl) (by kernel_rfl) (fun W => Below wr.heap.size wr W) newer (pickD [vIs (.pointer (some ⟨xb, 5, none⟩)), vIs (.slice sA j sc), vIs (.pointer (some ⟨rb, 5, none⟩)), vIs (.slice (some ⟨b3, o3, none⟩) x.d.adds.length x.cp), vIs (.int .i64 j), vIs (.pointer (some ⟨b3, o3 + j * 2, none⟩)), vIs (.pointer (some ⟨b3, o3 + j * 2, none⟩)), vIs (vi r.lo), vIs (.pointer (some ⟨rb, 5, none⟩)), vIs (.slice (some ⟨b3, o3, none⟩) x.d.adds.length x.cp), vIs (.int .i64 j), vIs (.pointer (some ⟨b3, o3 + j * 2, none⟩)), vIs (.pointer (some ⟨b3, o3 + j * 2 + 1, none⟩)), vIs (vi r.hi), vIs (rgVW r), vOne wr.heap.size 67 #[vi r.lo, vi r.hi]]) (fun h k => newer_trans h k) (pickD_stable _ ⟨vIs_st, vIs_st, vIs_st, vIs_st, vIs_st, vIs_st, vIs_st, vIs_st, vIs_st, vIs_st, vIs_st, vIs_st, vIs_st, vIs_st, vIs_st, vOne_st, trivial⟩) (Below.refl _ wr).drew (Below.refl _ _) ?_ ?_)
      ·refine ⟨?_, ?_, ?_, ?_, ?_, ?_, ?_, ?_, ?_, ?_, ?_, ?_, ?_, ?_, ?_, ?_, trivial⟩
       ·intro a W hG hR hO hp; have h6 := hO.slot 6 (by kernel_rfl); refine wp_yields (v := .pointer (some ⟨xb, 5, none⟩)) ?_ ⟨_, rfl, rfl, Below.refl _ _, hG⟩; simp [slotOf] at h6; simp [execOp, go_sem, h6]
       ·intro a W hG hR hO hp; have h52 : slotOf a 52 = .pointer (some ⟨xb, 5, none⟩) := hp.1; have c0 := keep_cell e5 hG; refine wp_yields (v := .slice sA j sc) ?_ ⟨_, rfl, rfl, Below.refl _ _, hG⟩; simp [slotOf] at h52; simp [execOp, go_sem, h52, c0]
       ·intro a W hG hR hO hp; have h5 := hO.slot 5 (by kernel_rfl); refine wp_yields (v := .pointer (some ⟨rb, 5, none⟩)) ?_ ⟨_, rfl, rfl, Below.refl _ _, hG⟩; simp [slotOf] at h5; simp [execOp, go_sem, h5]
       ·intro a W hG hR hO hp; have h54 : slotOf a 54 = .pointer (some ⟨rb, 5, none⟩) := hp.1; have c0 := keep_cell d5 hG; refine wp_yields (v := .slice (some ⟨b3, o3, none⟩) x.d.adds.length x.cp) ?_ ⟨_, rfl, rfl, Below.refl _ _, hG⟩; simp [slotOf] at h54; simp [execOp, go_sem, h54, c0]
       ·intro a W hG hR hO hp; have h7 := hO.slot 7 (by kernel_rfl); refine wp_yields (v := .int .i64 j) ?_ ⟨_, rfl, rfl, Below.refl _ _, hG⟩; simp [slotOf] at h7; simp [execOp, go_sem, h7]
       ·intro a W hG hR hO hp; have h55 : slotOf a 55 = .slice (some ⟨b3, o3, none⟩) x.d.adds.length x.cp := hp.1; have h56 : slotOf a 56 = .int .i64 j := hp.2.1; refine wp_yields (v := .pointer (some ⟨b3, o3 + j * 2, none⟩)) ?_ ⟨_, rfl, rfl, Below.refl _ _, hG⟩; simp [slotOf] at h55 h56; simp [execOp, go_sem, h55, h56, hjn]
       ·intro a W hG hR hO hp; have h57 : slotOf a 57 = .pointer (some ⟨b3, o3 + j * 2, none⟩) := hp.1; refine wp_yields (v := .pointer (some ⟨b3, o3 + j * 2, none⟩)) ?_ ⟨_, rfl, rfl, Below.refl _ _, hG⟩; simp [slotOf] at h57; simp [execOp, go_sem, h57]
       ·intro a W hG hR hO hp; have h58 : slotOf a 58 = .pointer (some ⟨b3, o3 + j * 2, none⟩) := hp.1; have c0 := keep_cell c0 hG; refine wp_yields (v := vi r.lo) ?_ ⟨_, rfl, rfl, Below.refl _ _, hG⟩; simp [slotOf] at h58; simp [execOp, go_sem, h58, c0]
       ·intro a W hG hR hO hp; have h5 := hO.slot 5 (by kernel_rfl); refine wp_yields (v := .pointer (some ⟨rb, 5, none⟩)) ?_ ⟨_, rfl, rfl, Below.refl _ _, hG⟩; simp [slotOf] at h5; simp [execOp, go_sem, h5]
       ·intro a W hG hR hO hp; have h60 : slotOf a 60 = .pointer (some ⟨rb, 5, none⟩) := hp.1; have c0 := keep_cell d5 hG; refine wp_yields (v := .slice (some ⟨b3, o3, none⟩) x.d.adds.length x.cp) ?_ ⟨_, rfl, rfl, Below.refl _ _, hG⟩; simp [slotOf] at h60; simp [execOp, go_sem, h60, c0]
       ·intro a W hG hR hO hp; have h7 := hO.slot 7 (by kernel_rfl); refine wp_yields (v := .int .i64 j) ?_ ⟨_, rfl, rfl, Below.refl _ _, hG⟩; simp [slotOf] at h7; simp [execOp, go_sem, h7]
       ·intro a W hG hR hO hp; have h61 : slotOf a 61 = .slice (some ⟨b3, o3, none⟩) x.d.adds.length x.cp := hp.1; have h62 : slotOf a 62 = .int .i64 j := hp.2.1; refine wp_yields (v := .pointer (some ⟨b3, o3 + j * 2, none⟩)) ?_ ⟨_, rfl, rfl, Below.refl _ _, hG⟩; simp [slotOf] at h61 h62; simp [execOp, go_sem, h61, h62, hjn]
       ·intro a W hG hR hO hp; have h63 : slotOf a 63 = .pointer (some ⟨b3, o3 + j * 2, none⟩) := hp.1; refine wp_yields (v := .pointer (some ⟨b3, o3 + j * 2 + 1, none⟩)) ?_ ⟨_, rfl, rfl, Below.refl _ _, hG⟩; simp [slotOf] at h63; simp [execOp, go_sem, h63]
       ·intro a W hG hR hO hp; have h64 : slotOf a 64 = .pointer (some ⟨b3, o3 + j * 2 + 1, none⟩) := hp.1; have c0 := keep_cell c1 hG; refine wp_yields (v := vi r.hi) ?_ ⟨_, rfl, rfl, Below.refl _ _, hG⟩; simp [slotOf] at h64; simp [execOp, go_sem, h64, c0]
       ·intro a W hG hR hO hp; have h59 : slotOf a 59 = vi r.lo := hp.1; have h65 : slotOf a 65 = vi r.hi := hp.2.1; refine wp_yields (v := rgVW r) ?_ ⟨_, rfl, rfl, Below.refl _ _, hG⟩; simp [slotOf] at h59 h65; simp [execOp, go_sem, h59, h65]
       ·intro a W hG hR hO hp; have h66 : slotOf a 66 = rgVW r := hp.1; have h66 : slotOf a 66 = rgVW r := hp.1; refine wp_makes (v := .slice (some ⟨W.heap.size, 0, none⟩) 1 1) (W' := W.alloc (.cells #[vi r.lo, vi r.hi] 67)) ?_ ⟨_, rfl, ⟨_, rfl, hG.size, Whole.made _ _ _⟩, newer_allocH _ _, hG.alloc hG.size _⟩; simp [slotOf] at h66; simp [execOp, go_sem, h66]
      ·intro W hG hR
       rintro _ rfl _ rfl _ rfl _ rfl _ rfl _ rfl _ rfl _ rfl _ rfl _ rfl _ rfl _ rfl _ rfl _ rfl _ rfl _ ⟨nb, rfl, hnb, hWn⟩
       change wpList _ _ _ _ _ _
       simp only [Act.put, List.setIfInBounds_toArray, List.set_cons_zero, List.set_cons_succ, List.drop_succ_cons, List.drop_zero]
       have HO2 := Lib.hid (own_below HB.out.2.2.2 hG)
       have HNW := Lib.hid (World.news_of_block hWn)
       have HB4 := Lib.hid (And.intro (newer_trans HB.out.1 hG) (And.intro (HB.out.2.1.below hG HB.out.2.1.lt) (HB.out.2.2.1.below hG HB.out.2.2.1.lt)))
       have hbz := HB4.out.1.size
       have HTK := Lib.hid (take_flat rgLW x.d.adds j r HRG.out)
       obtain ⟨hi0, hz0, hz1, hz2⟩ := HI38.out
       clear hG hR hnb hWn c0 c1 d5 e5 HB
       refine wpList_append_lies _ rfl (.tmp 53) (.tmp 67) 76 rfl wo.heap.size 67 i38 (.agg #[vi 0, vi 0]) 2 16 Try.underlying76 hi0 hz0 hz1 hz2 rfl (by omega) _ j _ rfl HO2.out ⟨nb, 0, none⟩ 1 1 [vi r.lo, vi r.hi] rfl rfl HNW.out (by simp [Value.oneCell']) (by omega) (by unfold maxLen; omega) (by omega) hbz W.heap.size rfl ?_
       intro gg cp2 w5 hown2 hgrow2 hat2 hlt2'
       have hxw5 := HB4.out.2.2.grown hgrow2 (own_ne HO2.out HB4.out.2.2 (by decide)).symm
       have HB5 := Lib.hid (And.intro (HB4.out.1.grown hgrow2 hbz (own_ge HO2.out)) (And.intro (HB4.out.2.1.grown hgrow2 (own_ne HO2.out HB4.out.2.1 (by decide)).symm) (And.intro hxw5 hown2)))
       have e5 := hxw5.at 5 (v := .slice sA j sc) rfl
       have f5 := hxw5.free 5
       clear hown2 hgrow2 hat2 hlt2' hi0 hz0 hz1 hz2 HO2 HNW HB4 hxw5 hbz
       simp only [Act.put, List.setIfInBounds_toArray, List.set_cons_zero, List.set_cons_succ]
       go_wp2_with fail
       go_roundw
       case rel =>
        refine ⟨j + 1, _, by omega, by go_num, HB5.out.1.setCell (p := ⟨xb, 5, none⟩) HXBO.out.1 _, HB5.out.2.1.far (p := ⟨xb, 5, none⟩) ?_ _, HB5.out.2.2.1.set 5 _, ?_⟩
        ·have := HXBO.out.2
         dsimp only
         omega
        ·rw [HTK.out]
         exact own_set HB5.out.2.2.2 (own_ne HB5.out.2.2.2 HB5.out.2.2.1 (by decide)) _
       case measure => simp [intOf]; omega
     ·obtain rfl : j = x.d.adds.length := by omega
      have hjn : ¬ ((x.d.adds.length : Int) < x.d.adds.length) := by omega
      obtain ⟨x', hx'⟩ : ∃ x' : Wk, x' = ⟨x.d, sA, sc⟩ := ⟨_, rfl⟩
      have hxc : Whole wr xb 78 (wkC x') := by rw [hx']; exact hxw
      have hxo : wr.ownsRow wo.heap.size 67 2 (.slice x'.a x'.d.adds.length x'.cp) x'.d.adds.length (x'.d.adds.flatMap rgLW) := by
       rw [hx']
       have h := hown
       rw [List.take_length] at h
       exact h
      have HPA2 := Lib.hid (HPA.out.next hbw)
      have HXD := Lib.hid (show x'.d = x.d by rw [hx'])
      have HXO := Lib.hid (own_more hxo HPA.out.nw.size)
      have y0 := hxc.at 0 (v := vi x'.d.price) rfl
      have y1 := hxc.at 1 (v := vi x'.d.first) rfl
      have y2 := hxc.at 2 (v := vi x'.d.last) rfl
      have y3 := hxc.at 3 (v := vi x'.d.age) rfl
      have y4 := hxc.at 4 (v := vi x'.d.village) rfl
      have y5 := hxc.at 5 (v := .slice x'.a x'.d.adds.length x'.cp) rfl
      clear hbw hrw hxw hown e5 HB hxc hxo hx'
      go_upto_region 11 with fail
      clear d5
      obtain ⟨svA, svc, rfl⟩ := own_form HPA2.out.ws
      have HPA3 := Lib.hid (HPA2.out.next (newer_allocH wr (.cells (wkC x') 78)))
      have HXO3 := Lib.hid (own_below HXO.out (newer_allocH wr (.cells (wkC x') 78)))
      have HNW := Lib.hid (World.news_of_block (Whole.made wr 78 (wkC x')))
      have z2 := HPA2.out.oz.at 2 (v := .slice svA xs.length svc) rfl
      have hxl : xs.length <= 1000 := by
       have h := congrArg List.length HXS.out
       simp only [List.length_map, List.length_take] at h
       omega
      have hbz := HPA3.out.nw.size
      obtain ⟨hi0, hz0, hz1, hz2⟩ := HI87.out
      go_wp2_with (at_builtin; go_loud ((refine wpList_append_lies _ rfl (.tmp 71) (.tmp 73) 52 rfl w.heap.size 78 i87 (.agg #[vi 0, vi 0, vi 0, vi 0, vi 0, .slice none 0 0]) 6 64 Try.underlying52 hi0 hz0 hz1 hz2 rfl (by omega) _ xs.length _ rfl HPA3.out.ws ⟨wr.heap.size, 0, none⟩ 1 1 (wkL x') rfl rfl HNW.out (by simp [Value.oneCell']) (by omega) (by unfold maxLen; omega) (by omega) hbz (wr.heap.size + 1) (by simp) ?_); intro gg cp2 w5 hown2 hgrow2 hat2 hlt2'; have ho5 := HPA3.out.oz.grown hgrow2 (own_ne HPA3.out.ws HPA3.out.oz (by decide)).symm; have z5 := ho5.at 2 (v := .slice svA xs.length svc) rfl; have f5 := ho5.free 2; have HPA4 := Lib.hid (HPA3.out.addW hgrow2 hown2 HXO3.out); clear hown2 hgrow2 hat2 hlt2' ho5 hi0 hz0 hz1 hz2 hbz hxl z2 y0 y1 y2 y3 y4 y5))
      go_roundw
      case rel =>
       refine ⟨k + 1, _, xs ++ [x'], by omega, by go_num, ?_, HPA4.out⟩
       rw [List.map_append, HXS.out, List.map_take, List.map_take, List.take_add_one]
       congr 1
       rw [List.getElem?_map, HX.out]
       simp [HXD.out]
      case measure => simp [intOf]; omega
   ·obtain rfl : k = p.ws.length := by omega
    have hkn : ¬ ((p.ws.length : Int) < p.ws.length) := by omega
    have hxs : xs.map (·.d) = p.ws.map (·.d) := by rw [HXS.out, List.take_length]
    have HXD := Lib.hid hxs
    have hxl : xs.length = p.ws.length := by simpa using congrArg List.length hxs
    have HXL := Lib.hid hxl
    clear hxs hxl HXS
    go_wp2_with fail
    clear x2
    go_loopw [8] (fun s8 wr => ∃ (k : Nat) (nv : Value), k <= p.ns.length /\ s8 = .int .i64 k /\ PrA p w ob V2 vc2 Q2 qc2 sv xs nv (p.ns.take k) wr) (fun s8 _ => p.ns.length - (intOf s8).toNat)
    case atStart => exact ⟨0, _, Nat.zero_le _, rfl, HPA.out⟩
    case round =>
     obtain ⟨k, nv, hk, rfl, hpa⟩ := hrel
     clear HPA
     have HPA := Lib.hid hpa
     have x3 := hpa.b0.at 3 (v := .slice p.na p.ns.length p.nc) rfl
     clear hpa
     by_cases hlt : k < p.ns.length
     ·have hkn : (k : Int) < p.ns.length := by omega
      obtain ⟨n, hn⟩ := get_of_lt hlt
      obtain ⟨b2, o2, e2, _, c0, c1, c2⟩ := row3W (HOK.out.next HPA.out.nw).ns hn
      rw [e2] at x3
      have HN := Lib.hid hn
      clear hn e2
      go_upto_region 16 with fail
      refine genQ (fun X => newer wr X /\ Whole X wr.heap.size 49 #[vi n.slope, vi n.year, vi n.due]) ⟨newer_allocH _ _, Whole.made _ _ _⟩ ?_
      obtain ⟨nb, hnb⟩ : ∃ nb, nb = wr.heap.size := ⟨_, rfl⟩
      rw [<- hnb]
      clear hnb c0 c1 c2 x3
      rintro w2 ⟨hn2, hwx⟩
      have y0 := hwx.at 0 (v := vi n.slope) rfl
      have y1 := hwx.at 1 (v := vi n.year) rfl
      have y2 := hwx.at 2 (v := vi n.due) rfl
      have HPA2 := Lib.hid (HPA.out.next hn2)
      clear hn2 hwx
      obtain ⟨svA, svc, rfl⟩ := own_form HPA2.out.ns
      have HPA3 := Lib.hid (HPA2.out.next (newer_allocH w2 (.cells #[vi n.slope, vi n.year, vi n.due] 79)))
      have HNW := Lib.hid (World.news_of_block (Whole.made w2 79 #[vi n.slope, vi n.year, vi n.due]))
      have z2 := HPA2.out.oz.at 3 (v := .slice svA (p.ns.take k).length svc) rfl
      have HTK := Lib.hid (show p.ns.take (k + 1) = p.ns.take k ++ [n] by rw [List.take_add_one, HN.out]; rfl)
      have hxl : (p.ns.take k).length <= 1000 := by rw [List.length_take]; omega
      have hbz := HPA3.out.nw.size
      obtain ⟨nl, hnl⟩ : ∃ nl, nl = p.ns.take k := ⟨_, rfl⟩
      rw [<- hnl] at HPA2 HPA3 HTK z2 hxl
      clear hnl
      obtain ⟨hi0, hz0, hz1, hz2⟩ := HI89.out
      go_wp2_with (at_builtin; go_loud ((refine wpList_append_lies _ rfl (.tmp 89) (.tmp 97) 53 rfl w.heap.size 79 i89 (.agg #[vi 0, vi 0, vi 0]) 3 24 Try.underlying53 hi0 hz0 hz1 hz2 rfl (by omega) _ nl.length _ rfl HPA3.out.ns ⟨w2.heap.size, 0, none⟩ 1 1 (ndL n) rfl rfl HNW.out (by simp [Value.oneCell']) (by omega) (by unfold maxLen; omega) (by omega) hbz (w2.heap.size + 1) (by simp) ?_); intro gg cp2 w5 hown2 hgrow2 hat2 hlt2'; have ho5 := HPA3.out.oz.grown hgrow2 (own_ne HPA3.out.ns HPA3.out.oz (by decide)).symm; have z5 := ho5.at 3 (v := .slice svA nl.length svc) rfl; have f5 := ho5.free 3; have HPA4 := Lib.hid (HPA3.out.addN hgrow2 hown2); clear hown2 hgrow2 hat2 hlt2' ho5 hi0 hz0 hz1 hz2 hbz hxl z2 y0 y1 y2))
      go_roundw
      case rel => exact ⟨k + 1, _, by omega, by go_num, by rw [HTK.out]; exact HPA4.out⟩
      case measure => simp [intOf]; omega
     ·obtain rfl : k = p.ns.length := by omega
      have hkn : ¬ ((p.ns.length : Int) < p.ns.length) := by omega
      have hpz := HPA.out
      rw [List.take_length] at hpz
      obtain ⟨svA, svc, rfl⟩ := own_form hpz.ws
      obtain ⟨nvA, nvc, rfl⟩ := own_form hpz.ns
      have HPZ := Lib.hid hpz
      have z0 := hpz.oz.at 0 (v := (vi p.years)) rfl
      have z1 := hpz.oz.at 1 (v := (vi p.slopes)) rfl
      have z2 := hpz.oz.at 2 (v := (.slice svA xs.length svc)) rfl
      have z3 := hpz.oz.at 3 (v := (.slice nvA p.ns.length nvc)) rfl
      have z4 := hpz.oz.at 4 (v := (.slice V2 p.vs.length vc2)) rfl
      have z5 := hpz.oz.at 5 (v := (.slice Q2 p.ps.length qc2)) rfl
      have b0 := hpz.b1.at 0 rfl
      have b1 := hpz.b1.at 1 rfl
      have b2 := hpz.b1.at 2 rfl
      have b3 := hpz.b1.at 3 rfl
      have b4 := hpz.b1.at 4 rfl
      have b5 := hpz.b1.at 5 rfl
      have f0 := hpz.b1.free 0
      have f1 := hpz.b1.free 1
      have f2 := hpz.b1.free 2
      have f3 := hpz.b1.free 3
      have f4 := hpz.b1.free 4
      have f5 := hpz.b1.free 5
      clear hpz HPA
      go_wp2_with fail
      have hw := ((((((HPZ.out.b1).set 0 (vi p.years)).set 1 (vi p.slopes)).set 2 (.slice svA xs.length svc)).set 3 (.slice nvA p.ns.length nvc)).set 4 (.slice V2 p.vs.length vc2)).set 5 (.slice Q2 p.ps.length qc2)
      have hrow : ∀ {e : TypeId} {s n : Nat} {v : Value} {ys : List Value}, wr.ownsRow w.heap.size e s v n ys -> e ≠ 55 -> (((((((wr).setCell ⟨w.heap.size + 1, 0, none⟩ (vi p.years)).setCell ⟨w.heap.size + 1, 1, none⟩ (vi p.slopes)).setCell ⟨w.heap.size + 1, 2, none⟩ (.slice svA xs.length svc)).setCell ⟨w.heap.size + 1, 3, none⟩ (.slice nvA p.ns.length nvc)).setCell ⟨w.heap.size + 1, 4, none⟩ (.slice V2 p.vs.length vc2)).setCell ⟨w.heap.size + 1, 5, none⟩ (.slice Q2 p.ps.length qc2)).ownsRow w.heap.size e s v n ys := fun ho hne => own_put6W HPZ.out.b1 ho hne _ _ _ _ _ _
      have hn : newer w (((((((wr).setCell ⟨w.heap.size + 1, 0, none⟩ (vi p.years)).setCell ⟨w.heap.size + 1, 1, none⟩ (vi p.slopes)).setCell ⟨w.heap.size + 1, 2, none⟩ (.slice svA xs.length svc)).setCell ⟨w.heap.size + 1, 3, none⟩ (.slice nvA p.ns.length nvc)).setCell ⟨w.heap.size + 1, 4, none⟩ (.slice V2 p.vs.length vc2)).setCell ⟨w.heap.size + 1, 5, none⟩ (.slice Q2 p.ps.length qc2)) := ((((((HPZ.out.nw).setCell (p := ⟨w.heap.size + 1, 0, none⟩) (by dsimp only; omega) (vi p.years)).setCell (p := ⟨w.heap.size + 1, 1, none⟩) (by dsimp only; omega) (vi p.slopes)).setCell (p := ⟨w.heap.size + 1, 2, none⟩) (by dsimp only; omega) (.slice svA xs.length svc)).setCell (p := ⟨w.heap.size + 1, 3, none⟩) (by dsimp only; omega) (.slice nvA p.ns.length nvc)).setCell (p := ⟨w.heap.size + 1, 4, none⟩) (by dsimp only; omega) (.slice V2 p.vs.length vc2)).setCell (p := ⟨w.heap.size + 1, 5, none⟩) (by dsimp only; omega) (.slice Q2 p.ps.length qc2)
      have k0 := hw.at 0 (v := vi p.years) rfl
      have k1 := hw.at 1 (v := vi p.slopes) rfl
      have k2 := hw.at 2 (v := .slice svA xs.length svc) rfl
      have k3 := hw.at 3 (v := .slice nvA p.ns.length nvc) rfl
      have k4 := hw.at 4 (v := .slice V2 p.vs.length vc2) rfl
      have k5 := hw.at 5 (v := .slice Q2 p.ps.length qc2) rfl
      have HEND : Hid ((∃ p' : Pm, pmV p' = .agg #[vi p.years, vi p.slopes, .slice svA xs.length svc, .slice nvA p.ns.length nvc, .slice V2 p.vs.length vc2, .slice Q2 p.ps.length qc2] /\ p'.pj = p.pj /\ PmOk p' (((((((wr).setCell ⟨w.heap.size + 1, 0, none⟩ (vi p.years)).setCell ⟨w.heap.size + 1, 1, none⟩ (vi p.slopes)).setCell ⟨w.heap.size + 1, 2, none⟩ (.slice svA xs.length svc)).setCell ⟨w.heap.size + 1, 3, none⟩ (.slice nvA p.ns.length nvc)).setCell ⟨w.heap.size + 1, 4, none⟩ (.slice V2 p.vs.length vc2)).setCell ⟨w.heap.size + 1, 5, none⟩ (.slice Q2 p.ps.length qc2)) /\ p'.ps.length <= p'.pc) /\ newer w (((((((wr).setCell ⟨w.heap.size + 1, 0, none⟩ (vi p.years)).setCell ⟨w.heap.size + 1, 1, none⟩ (vi p.slopes)).setCell ⟨w.heap.size + 1, 2, none⟩ (.slice svA xs.length svc)).setCell ⟨w.heap.size + 1, 3, none⟩ (.slice nvA p.ns.length nvc)).setCell ⟨w.heap.size + 1, 4, none⟩ (.slice V2 p.vs.length vc2)).setCell ⟨w.heap.size + 1, 5, none⟩ (.slice Q2 p.ps.length qc2))) := Lib.hid (by
       refine ⟨⟨⟨p.years, p.slopes, xs, svA, svc, p.ns, nvA, nvc, p.vs, V2, vc2, p.ps, Q2, qc2⟩, rfl, ?_, ⟨?_, ?_, ?_, ?_, ?_⟩, ?_⟩, hn⟩
       ·simp only [Pm.pj]
        rw [HXD.out]
       ·exact row_of_own (enc := wkL) (size := 6) (by omega) (fun _ => rfl) (hrow HPZ.out.ws (by decide))
       ·intro x hx
        exact row_of_own (enc := rgLW) (size := 2) (by omega) (fun _ => rfl) (hrow (HPZ.out.ad x hx) (by decide))
       ·exact row_of_own (enc := ndL) (size := 3) (by omega) (fun _ => rfl) (hrow HPZ.out.ns (by decide))
       ·exact row_of_own (enc := boL) (size := 1) (by omega) (fun _ => rfl) (hrow HPZ.out.vs (by decide))
       ·exact row_of_own (enc := intL) (size := 1) (by omega) (fun _ => rfl) (hrow HPZ.out.ps (by decide))
       ·exact (own_room HPZ.out.ps).1)
      clear hw hrow hn z0 z1 z2 z3 z4 z5 b0 b1 b2 b3 b4 b5 f0 f1 f2 f3 f4 f5
      obtain ⟨⟨p', hp', hpj, hpo, hpc⟩, hn⟩ := HEND.out
      exact bodyPost_ret (v := .agg #[vi p.years, vi p.slopes, .slice svA xs.length svc, .slice nvA p.ns.length nvc, .slice V2 p.vs.length vc2, .slice Q2 p.ps.length qc2]) (by simp [results, Try.results12, go_sem, k0, k1, k2, k3, k4, k5]) rfl ⟨⟨p', by rw [hp'], hpj, hpo, hpc⟩, hn⟩
end

section
open Go.ChangeShapes Go.WideShapes Go.ChangeAt Go.RowKit Go.Deep
theorem Try.cells3W : Try.prog.cellsOf 3 = 1 := by kernel_rfl
theorem Try.cells4W : Try.prog.cellsOf 4 = 1 := by kernel_rfl
theorem Try.cells75 : Try.prog.cellsOf 75 = 2 := by kernel_rfl
theorem Try.cells71 : Try.prog.cellsOf 71 = 1 := by kernel_rfl
theorem Try.cells73 : Try.prog.cellsOf 73 = 6 := by kernel_rfl
theorem Try.cells49 : Try.prog.cellsOf 49 = 3 := by kernel_rfl
theorem Try.cells23 : Try.prog.cellsOf 23 = 1 := by kernel_rfl
theorem Try.cells24 : Try.prog.cellsOf 24 = 1 := by kernel_rfl
theorem Try.cells25 : Try.prog.cellsOf 25 = 1 := by kernel_rfl
theorem Try.cells26W : Try.prog.cellsOf 26 = 1 := by kernel_rfl
theorem Try.cells28 : Try.prog.cellsOf 28 = 6 := by kernel_rfl
section
variable {H : Type} {enc : TypeId × Value -> H} {w : World} {base : Nat} {spare : Nat -> Bool} {held : Bool} {fuel : Nat} {cs : List Value} {x : DataW H × List MemPlace}
theorem open_rowPW {α : Type} {ec : α -> List Value} {Pr : α -> Prop} {t e s : Nat} (ht : Try.prog.underlying t = some (.slice e)) (hC : Try.prog.cellsOf e = s) (he : ∀ y, (ec y).length = s) (hs : 0 < s)
  (hel : ∀ {fuel : Nat} {cs : List Value} {x : DataW H × List MemPlace}, DataW.trod enc Try.prog w base spare held fuel e cs = some x -> ∃ y, cs = ec y /\ Pr y)
  (h : DataW.trod enc Try.prog w base spare held fuel t cs = some x) : ∃ (A : Option Addr) (l : List α) (cp : Nat), cs = [.slice A l.length cp] /\ l.length <= maxLen /\ Row ec s w w.heap.size A l /\ ∀ y ∈ l, Pr y := by
 rcases open_slice ht h with ⟨rfl, _⟩ | ⟨a, len, cap, m, n, D, Pl, rfl, hb, hl, hm, hmm, _, hi⟩
 ·exact ⟨none, [], 0, rfl, Nat.zero_le _, Row.nil _, fun y hy => by simp at hy⟩
 ·have hlm : len <= m := by rw [hmm]; split <;> omega
  obtain ⟨b, off, sp⟩ := a
  rcases Nat.eq_zero_or_pos len with rfl | hpos
  ·exact ⟨_, [], cap, rfl, Nat.zero_le _, Row.nil _, fun y hy => by simp at hy⟩
  ·have hex : ∀ i, ∃ y : α, Pr y /\ (i < len -> w.cells? base ((⟨b, off, sp⟩ : Addr).add (i * s)) s = some (ec y)) := by
    intro i
    by_cases hi2 : i < len
    ·obtain ⟨cs', hc, ht'⟩ := hi i (by omega)
     obtain ⟨y, rfl, hpy⟩ := hel ht'
     rw [hC] at hc
     exact ⟨y, hpy, fun _ => hc⟩
    ·obtain ⟨cs', hc, ht'⟩ := hi 0 (by omega)
     obtain ⟨y, rfl, hpy⟩ := hel ht'
     exact ⟨y, hpy, fun h => absurd h hi2⟩
   obtain ⟨f, hff⟩ := Classical.axiomOfChoice hex
   have hf := fun i => (hff i).2
   have hcell : ∀ i, i < len -> ∀ j v, (ec (f i))[j]? = some v -> w.cell? (((⟨b, off, sp⟩ : Addr).add (i * s)).add j) = some v := by
    intro i hi2 j v hv
    obtain ⟨_, _, h3⟩ := World.cells?_some (hf i hi2)
    have hj : j < s := by rw [<- he (f i)]; exact (List.getElem?_eq_some_iff.1 hv).1
    rw [h3 j hj, hv]
   have hsp : sp = none := by
    obtain ⟨u, hv⟩ := get_of_lt (l := ec (f 0)) (k := 0) (by rw [he]; exact hs)
    have := hcell 0 hpos 0 _ hv
    simp only [Nat.zero_mul, Addr.add, if_true] at this
    unfold World.cell? at this
    cases sp with
    | none => rfl
    | some q =>
     exfalso
     dsimp only at this
     split at this
     ·simp at this
     ·cases this
   subst hsp
   refine ⟨_, (List.range len).map f, cap, by rw [List.length_map, List.length_range], by rw [List.length_map, List.length_range]; exact Nat.le_trans hl hm, fun _ => ⟨b, off, rfl, ?_, fun k x hk j v hv => ?_⟩, fun y hy => ?_⟩
   ·obtain ⟨u, hv⟩ := get_of_lt (l := ec (f 0)) (k := 0) (by rw [he]; exact hs)
    have := World.block_lt_of_cell? w _ (hcell 0 hpos 0 _ hv)
    simpa [Addr.add] using this
   ·rw [List.getElem?_map] at hk
    obtain ⟨i, hi3, rfl⟩ := Option.map_eq_some_iff.1 hk
    obtain ⟨hkl, hki⟩ := List.getElem?_eq_some_iff.1 hi3
    rw [List.getElem_range] at hki
    subst hki
    have := hcell k (by simpa using hkl) j v hv
    rw [Go.Deep.add_add, add_row] at this
    rw [Nat.add_assoc]
    exact this
   ·obtain ⟨i, _, rfl⟩ := List.mem_map.1 hy
    exact (hff i).1
theorem int_cellsW (h : DataW.trod enc Try.prog w base spare held fuel 3 cs = some x) : ∃ y : Int, cs = intL y /\ True := by
 obtain ⟨a, ha, _⟩ := DataW.trod_int Try.underlying3 h
 exact ⟨a, ha, trivial⟩
theorem bool_cells (h : DataW.trod enc Try.prog w base spare held fuel 4 cs = some x) : ∃ y : Bool, cs = boL y /\ True := by
 obtain ⟨a, ha, _⟩ := DataW.trod_bool Try.underlying4 h
 exact ⟨a, ha, trivial⟩
theorem rg_cellsW (h : DataW.trod enc Try.prog w base spare held fuel 75 cs = some x) : ∃ y : RgW, cs = rgLW y /\ True := by
 obtain ⟨xs, m, _, _, hlen, hxl, hg⟩ := DataW.trod_struct Try.underlying75 h
 rw [Try.cells75] at hlen
 obtain ⟨c0, c1, rfl⟩ := len2 hlen
 obtain ⟨y0, y1, rfl⟩ := len2 (show xs.length = 2 from hxl)
 have h0 := hg 0 _ rfl
 have h1 := hg 1 _ rfl
 simp [Try.cells3W] at h0 h1
 obtain ⟨a, ha, _⟩ := DataW.trod_int Try.underlying3 h0
 obtain ⟨b, hb, _⟩ := DataW.trod_int Try.underlying3 h1
 injection ha with ha
 injection hb with hb
 exact ⟨⟨a, b⟩, by rw [ha, hb], trivial⟩
theorem nd_cells (h : DataW.trod enc Try.prog w base spare held fuel 49 cs = some x) : ∃ y : Nd, cs = ndL y /\ True := by
 obtain ⟨xs, m, _, _, hlen, hxl, hg⟩ := DataW.trod_struct Try.underlying49 h
 rw [Try.cells49] at hlen
 obtain ⟨c0, c1, c2, rfl⟩ := len3 hlen
 obtain ⟨y0, y1, y2, rfl⟩ := len3 (show xs.length = 3 from hxl)
 have h0 := hg 0 _ rfl
 have h1 := hg 1 _ rfl
 have h2 := hg 2 _ rfl
 simp [Try.cells3W] at h0 h1 h2
 obtain ⟨a, ha, _⟩ := DataW.trod_int Try.underlying3 h0
 obtain ⟨b, hb, _⟩ := DataW.trod_int Try.underlying3 h1
 obtain ⟨c, hc, _⟩ := DataW.trod_int Try.underlying3 h2
 injection ha with ha
 injection hb with hb
 injection hc with hc
 exact ⟨⟨a, b, c⟩, by rw [ha, hb, hc], trivial⟩
theorem wk_cells (h : DataW.trod enc Try.prog w base spare held fuel 73 cs = some x) : ∃ y : Wk, cs = wkL y /\ (y.d.adds.length <= maxLen /\ Row rgLW 2 w w.heap.size y.a y.d.adds) := by
 obtain ⟨xs, m, _, _, hlen, hxl, hg⟩ := DataW.trod_struct Try.underlying73 h
 rw [Try.cells73] at hlen
 obtain ⟨c0, c1, c2, c3, c4, c5, rfl⟩ := len6 hlen
 obtain ⟨y0, y1, y2, y3, y4, y5, rfl⟩ := len6 (show xs.length = 6 from hxl)
 have h0 := hg 0 _ rfl
 have h1 := hg 1 _ rfl
 have h2 := hg 2 _ rfl
 have h3 := hg 3 _ rfl
 have h4 := hg 4 _ rfl
 have h5 := hg 5 _ rfl
 simp [Try.cells3W, Try.cells71] at h0 h1 h2 h3 h4 h5
 obtain ⟨z0, e0, _⟩ := DataW.trod_int Try.underlying3 h0
 obtain ⟨z1, e1, _⟩ := DataW.trod_int Try.underlying3 h1
 obtain ⟨z2, e2, _⟩ := DataW.trod_int Try.underlying3 h2
 obtain ⟨z3, e3, _⟩ := DataW.trod_int Try.underlying3 h3
 obtain ⟨z4, e4, _⟩ := DataW.trod_int Try.underlying3 h4
 obtain ⟨A, l, cp, e5, hl, hrow, _⟩ := open_rowPW (ec := rgLW) Try.underlying71 Try.cells75 (fun _ => rfl) (by omega) rg_cellsW h5
 injection e0 with e0
 injection e1 with e1
 injection e2 with e2
 injection e3 with e3
 injection e4 with e4
 injection e5 with e5
 exact ⟨⟨⟨z0, z1, z2, z3, z4, l⟩, A, cp⟩, by rw [e0, e1, e2, e3, e4, e5], hl, hrow⟩
theorem project_open (h : DataW.trod enc Try.prog w base spare held fuel 28 cs = some x) : ∃ p : Pm, cs = (pmC p).toList /\ PmOk p w := by
 obtain ⟨xs, m, _, _, hlen, hxl, hg⟩ := DataW.trod_struct Try.underlying28 h
 rw [Try.cells28] at hlen
 obtain ⟨c0, c1, c2, c3, c4, c5, rfl⟩ := len6 hlen
 obtain ⟨y0, y1, y2, y3, y4, y5, rfl⟩ := len6 (show xs.length = 6 from hxl)
 have h0 := hg 0 _ rfl
 have h1 := hg 1 _ rfl
 have h2 := hg 2 _ rfl
 have h3 := hg 3 _ rfl
 have h4 := hg 4 _ rfl
 have h5 := hg 5 _ rfl
 simp [Try.cells3W, Try.cells23, Try.cells24, Try.cells25, Try.cells26W] at h0 h1 h2 h3 h4 h5
 obtain ⟨z0, e0, _⟩ := DataW.trod_int Try.underlying3 h0
 obtain ⟨z1, e1, _⟩ := DataW.trod_int Try.underlying3 h1
 obtain ⟨wa, ws, wc, e2, _, hws, had⟩ := open_rowPW (ec := wkL) Try.underlying23 Try.cells73 (fun _ => rfl) (by omega) wk_cells h2
 obtain ⟨na, ns, nc, e3, _, hns, _⟩ := open_rowPW (ec := ndL) Try.underlying24 Try.cells49 (fun _ => rfl) (by omega) nd_cells h3
 obtain ⟨va, vs, vc, e4, _, hvs, _⟩ := open_rowPW (ec := boL) Try.underlying25 Try.cells4W (fun _ => rfl) (by omega) bool_cells h4
 obtain ⟨pa, ps, pc, e5, _, hps, _⟩ := open_rowPW (ec := intL) Try.underlying26 Try.cells3W (fun _ => rfl) (by omega) int_cellsW h5
 injection e0 with e0
 injection e1 with e1
 injection e2 with e2
 injection e3 with e3
 injection e4 with e4
 injection e5 with e5
 exact ⟨⟨z0, z1, ws, wa, wc, ns, na, nc, vs, va, vc, ps, pa, pc⟩, by rw [e0, e1, e2, e3, e4, e5], ⟨hws, fun y hy => (had y hy).2, hns, hvs, hps⟩⟩
end
end

section
open Go.ChangeShapes Go.WideShapes Go.ChangeAt Go.RowKit Go.Deep
theorem Try.underlying5 : Try.prog.underlying 5 = some (.int .u8) := by kernel_rfl
theorem Try.underlying29 : Try.prog.underlying 29 = some (.int .u16) := by kernel_rfl
theorem Try.underlying30 : Try.prog.underlying 30 = some (.slice 5) := by kernel_rfl
theorem Try.underlying31 : Try.prog.underlying 31 = some (.slice 29) := by kernel_rfl
end

section
theorem addsN_never (x : Wd) (y n : Int) : addsN x (-1) y n = 0 := by unfold addsN; rw [if_pos (.inl rfl)]
structure FaultOk (q : Pj) : Prop where
 wn : q.works.length <= 8
 nn : q.needs.length <= 20
 vn : q.villages.length <= 6
 years : inB q.years 1 5 = true
 slopes : inB q.slopes 1 6 = true
 pn : (q.purses.length : Int) = q.years
 ps : ∀ n ∈ q.purses, inB n 0 1000000 = true
 ws : ∀ x ∈ q.works, wdB q.years q.slopes q.villages.length x = true
 ns : ∀ x ∈ q.needs, ndB q.years q.slopes x = true
theorem faultOk_iff {q : Pj} : faultN q = 0 ↔ FaultOk q := by
 obtain ⟨years, slopes, works, needs, villages, purses⟩ := q
 unfold faultN
 dsimp only
 constructor
 ·intro h
  split at h
  ·cases h
  ·rename_i hn
   split at h
   ·rename_i hb
    simp only [Bool.and_eq_true, List.all_eq_true, decide_eq_true_eq] at hb
    exact ⟨by show works.length <= 8; omega, by show needs.length <= 20; omega, by show villages.length <= 6; omega, hb.1.1.1.1.1, hb.1.1.1.1.2, hb.1.1.1.2, hb.1.1.2, hb.1.2, hb.2⟩
   ·cases h
 ·intro h
  have h1 := h.wn
  have h2 := h.nn
  have h3 := h.vn
  dsimp only at h1 h2 h3
  rw [if_neg (by omega), if_pos]
  simp only [Bool.and_eq_true, List.all_eq_true, decide_eq_true_eq]
  exact ⟨⟨⟨⟨⟨h.years, h.slopes⟩, h.pn⟩, h.ps⟩, h.ws⟩, h.ns⟩
end

section
open Go.RowKit Go.Deep
def okS (vs : List Bool) (q : Int × Wd) : Bool := !(decide (0 <= q.1) && (decide (0 <= q.2.village) && !vs[q.2.village.toNat]?.getD false))
def spT (ws : List Wd) (plan : List Int) (y : Int) : List Int := (plan.zip ws).map fun q => if q.1 = y then q.2.price else 0
def spK (ws : List Wd) (plan : List Int) (k : Nat) : List Int := (List.range 5).map fun (y : Nat) => ((spT ws plan (y : Int)).take k).sum
def spL (ws : List Wd) (plan : List Int) : List Int := spK ws plan plan.length
def allowB (q : Pj) (plan : List Int) : Bool := (plan.zip q.works).all (okS q.villages) && paidB q.purses (spL q.works plan)
theorem spK_at {ws : List Wd} {plan : List Int} {k y : Nat} (h : y < 5) : (spK ws plan k)[y]? = some ((spT ws plan (y : Int)).take k).sum := by
 unfold spK
 rw [List.getElem?_map, List.getElem?_range h]
 rfl
end

section
open Go.RowKit Go.Deep
def costT (ws : List Wd) (plan : List Int) : List Int := (plan.zip ws).map fun q => if 0 <= q.1 then q.2.price else 0
def costN (ws : List Wd) (plan : List Int) : Int := (costT ws plan).sum
theorem costT_bd {ws : List Wd} {plan : List Int} (h : ∀ x ∈ ws, 0 <= x.price /\ x.price <= 1000000) : ∀ z ∈ costT ws plan, 0 <= z /\ z <= 1000000 := by
 intro z hz
 unfold costT at hz
 obtain ⟨q, hq, rfl⟩ := List.mem_map.1 hz
 have := h q.2 (List.of_mem_zip hq).2
 split <;> omega
end

section
structure PlOk (q : Pj) : Prop where
 ws : ∀ x ∈ q.works, 0 <= x.price /\ 0 <= x.first /\ x.first <= x.last /\ x.last <= 4 /\ 0 <= x.age /\ -1 <= x.village /\ ∀ r ∈ x.adds, 0 <= r.lo /\ r.lo <= r.hi /\ r.hi <= 10000
 ns : ∀ n ∈ q.needs, 1 <= n.due
 nn : q.needs.length <= 20
theorem buildA_get {x : Wd} {y : Int} {ns : List Nd} {a : List Int} {k : Nat} {n : Nd} (hk : ns[k]? = some n) (ha : k < a.length) : ∀ m, k < m -> iAt (buildA x y ns a m) k = addU x y n (iAt a k)
 | m + 1, h => by
  unfold buildA
  by_cases hm : k = m
  ·subst hm
   rw [hk]
   dsimp only
   rw [iAt_set (by rw [buildA_len]; exact ha), if_pos rfl]
  ·have ih := buildA_get (x := x) (y := y) hk ha m (by omega)
   split
   ·by_cases hml : m < a.length
    ·rw [iAt_set (by rw [buildA_len]; exact hml), if_neg (by omega), ih]
    ·rw [List.set_eq_of_length_le (by rw [buildA_len]; omega), ih]
   ·exact ih
structure StOf (q : Pj) (l : List Int) (s : Sx) : Prop where
 n : s.n = l.length
 a20 : s.a.length = 20
 p5 : s.p.length = 5
 a : ∀ k n, q.needs[k]? = some n -> iAt s.a k = mnI n.due (togN false n.slope.toNat n.year q.works l)
 p : ∀ y : Nat, y < 5 -> iAt s.p y = (spT q.works l (y : Int)).sum
 c : s.p.sum = costN q.works l
theorem togN_snoc {ws : List Wd} {l : List Int} {y : Int} {x : Wd} (slope : Nat) (year : Int) (h : ws[l.length]? = some x) : togN false slope year ws (l ++ [y]) = togN false slope year ws l + addsN x y year (rAt x.adds slope).lo := by
 unfold togN togL
 rw [zip_snoc y l ws x h, List.map_append, List.sum_append]
 simp [endRW]
theorem spT_snoc {ws : List Wd} {l : List Int} {y : Int} {x : Wd} (z : Int) (h : ws[l.length]? = some x) : (spT ws (l ++ [y]) z).sum = (spT ws l z).sum + (if y = z then x.price else 0) := by
 unfold spT
 rw [zip_snoc y l ws x h, List.map_append, List.sum_append]
 simp
theorem costN_snoc {ws : List Wd} {l : List Int} {y : Int} {x : Wd} (h : ws[l.length]? = some x) : costN ws (l ++ [y]) = costN ws l + (if 0 <= y then x.price else 0) := by
 unfold costN costT
 rw [zip_snoc y l ws x h, List.map_append, List.sum_append]
 simp
theorem st_zero {q : Pj} (hq : PlOk q) : StOf q [] sx0 where
 n := rfl
 a20 := rfl
 p5 := rfl
 a k n hn := by
  rw [show sx0.a = List.replicate 20 0 from rfl, iAt_zeros]
  have := hq.ns n (List.mem_of_getElem? hn)
  have h0 : togN false n.slope.toNat n.year q.works [] = 0 := rfl
  rw [h0]
  unfold mnI
  split <;> omega
 p y hy := by
  rw [show sx0.p = List.replicate 5 0 from rfl, iAt_zeros]
  rfl
 c := rfl
theorem st_next {q : Pj} {l : List Int} {s : Sx} {x : Wd} {y : Int} (hq : PlOk q) (h : StOf q l s) (hx : q.works[l.length]? = some x) (hy : y = -1 ∨ (0 <= y /\ y <= 4)) : StOf q (l ++ [y]) (bldS q s y) := by
 have hxo := hq.ws x (List.mem_of_getElem? hx)
 rw [bldS_at y (by rw [h.n]; exact hx)]
 unfold buildS
 by_cases hm : y = -1
 ·subst hm
  rw [if_pos rfl]
  refine ⟨by simp [h.n], h.a20, h.p5, fun k n hn => ?_, fun z hz => ?_, ?_⟩
  ·rw [togN_snoc _ _ hx, show addsN x (-1) n.year (rAt x.adds n.slope.toNat).lo = 0 by unfold addsN; rw [if_pos (.inl rfl)], Int.add_zero]
   exact h.a k n hn
  ·rw [spT_snoc _ hx, if_neg (by omega), Int.add_zero]
   exact h.p z hz
  ·rw [costN_snoc hx, if_neg (by omega), Int.add_zero]
   exact h.c
 ·rw [if_neg hm]
  have hy0 : 0 <= y /\ y <= 4 := by omega
  refine ⟨by simp [h.n], by rw [buildA_len]; exact h.a20, by rw [List.length_set]; exact h.p5, fun k n hn => ?_, fun z hz => ?_, ?_⟩
  ·have hkn := (List.getElem?_eq_some_iff.1 hn).1
   have hnn := hq.nn
   rw [buildA_get hn (by rw [h.a20]; omega) _ hkn, togN_snoc _ _ hx, h.a k n hn]
   have hb := rAt_bd (k := n.slope.toNat) hxo.2.2.2.2.2.2
   have had := addsN_bd (x := x) (built := y) (year := n.year) hb.1 hb.2 hxo.2.2.2.2.1
   unfold addU mnI
   repeat' split
   all_goals omega
  ·dsimp only
   rw [iAt_set (by rw [h.p5]; omega), spT_snoc _ hx]
   by_cases hz2 : y.toNat = z
   ·rw [if_pos hz2, if_pos (by omega), h.p y.toNat (by omega), hz2]
   ·rw [if_neg hz2, if_neg (by omega), Int.add_zero]
    exact h.p z hz
  ·dsimp only
   rw [sum_set _ _ _ (by rw [h.p5]; omega), costN_snoc hx, if_pos hy0.1, h.c]
theorem missK_zero {f : Nd -> Bool} {ns : List Nd} : ∀ k, (missK f ns k).length = 0 ↔ ∀ j n, j < k -> ns[j]? = some n -> f n = false
 | 0 => ⟨fun _ j n h => by omega, fun _ => rfl⟩
 | k + 1 => by
  have ih := missK_zero (f := f) (ns := ns) k
  cases hn : ns[k]? with
  | none =>
   rw [show missK f ns (k + 1) = missK f ns k by simp only [missK, hn, List.append_nil], ih]
   refine ⟨fun h j n hj hjn => ?_, fun h j n hj => h j n (by omega)⟩
   rcases Nat.lt_or_ge j k with h1 | h1
   ·exact h j n h1 hjn
   ·obtain rfl : j = k := by omega
    rw [hn] at hjn
    cases hjn
  | some m =>
   cases hf : f m with
   | true =>
    rw [missK_yes hn hf]
    refine ⟨fun h => by simp at h, fun h => ?_⟩
    rw [h k m (by omega) hn] at hf
    cases hf
   | false =>
    rw [missK_no hn hf, ih]
    refine ⟨fun h j n hj hjn => ?_, fun h j n hj => h j n (by omega)⟩
    rcases Nat.lt_or_ge j k with h1 | h1
    ·exact h j n h1 hjn
    ·obtain rfl : j = k := by omega
     rw [hn] at hjn
     cases hjn
     exact hf
def goodP (q : Pj) (l : List Int) : Bool := allowB q l && decide ((missP q l).length = 0)
theorem st_enough {q : Pj} {l : List Int} {s : Sx} (hq : PlOk q) (h : StOf q l s) : enoughB q.needs s.a = decide ((missP q l).length = 0) := by
 rw [Bool.eq_iff_iff, decide_eq_true_eq]
 unfold enoughB missP
 rw [missK_zero, List.all_eq_true]
 have hnn := hq.nn
 constructor
 ·intro ha j n hj hn
  have hja : s.a[j]? = some (iAt s.a j) := by
   obtain ⟨v, hv⟩ := get_of_lt (l := s.a) (k := j) (by rw [h.a20]; omega)
   rw [hv, iAt_of hv]
  have := ha _ (List.mem_of_getElem? (zip_at hn hja))
  simp only [decide_eq_true_eq] at this
  rw [h.a j n hn] at this
  unfold missB
  rw [decide_eq_false_iff_not]
  unfold mnI at this
  split at this <;> omega
 ·intro ha z hz
  obtain ⟨j, hj⟩ := List.getElem?_of_mem hz
  obtain ⟨h1, h2⟩ := List.getElem?_zip_eq_some.1 hj
  have := ha j z.1 (List.getElem?_eq_some_iff.1 h1).1 h1
  unfold missB at this
  rw [decide_eq_false_iff_not] at this
  rw [decide_eq_true_eq, <- iAt_of h2, h.a j z.1 h1]
  unfold mnI
  split <;> omega
theorem st_spent {q : Pj} {l : List Int} {s : Sx} (h : StOf q l s) : s.p = spL q.works l := by
 apply List.ext_getElem?
 intro i
 unfold spL
 rcases Nat.lt_or_ge i 5 with hi | hi
 ·rw [spK_at hi]
  obtain ⟨v, hv⟩ := get_of_lt (l := s.p) (k := i) (by rw [h.p5]; exact hi)
  rw [hv, <- iAt_of hv, h.p i hi, List.take_of_length_le]
  unfold spT
  rw [List.length_map, List.length_zip]
  omega
 ·rw [List.getElem?_eq_none (by rw [h.p5]; exact hi), List.getElem?_eq_none (by unfold spK; simpa using hi)]
def yearsL (x : Wd) : List Int := (List.range (yearsN x)).map fun (k : Nat) => x.first + (k : Int)
def endsR (q : Pj) : Nat -> List Int -> List (List Int)
 | 0, l => [l]
 | r + 1, l => match q.works[l.length]? with
  | some x => (-1 :: yearsL x).flatMap fun y => endsR q r (l ++ [y])
  | none => []
def stepR (q : Pj) (b : Option (List Int × Int)) (l : List Int) : Option (List Int × Int) := if goodP q l && imp false b (costN q.works l) then some (l, costN q.works l) else b
theorem endsR_pre (q : Pj) : ∀ (r : Nat) (l e : List Int), e ∈ endsR q r l -> ∃ t, e = l ++ t
 | 0, l, e, h => by
  simp only [endsR, List.mem_singleton] at h
  exact ⟨[], by simp [h]⟩
 | r + 1, l, e, h => by
  unfold endsR at h
  split at h
  ·obtain ⟨y, _, hy⟩ := List.mem_flatMap.1 h
   obtain ⟨t, ht⟩ := endsR_pre q r _ e hy
   exact ⟨y :: t, by rw [ht]; simp⟩
  ·simp at h
theorem foldR_bad {q : Pj} : ∀ (L : List (List Int)) (b : Option (List Int × Int)), (∀ e ∈ L, goodP q e = false) -> L.foldl (stepR q) b = b
 | [], _, _ => rfl
 | e :: L, b, h => by
  rw [List.foldl_cons, show stepR q b e = b by unfold stepR; rw [h e (by simp)]; simp]
  exact foldR_bad L b fun x hx => h x (List.mem_cons_of_mem _ hx)
theorem yearsL_in {x : Wd} {y : Int} (h : y ∈ yearsL x) : x.first <= y /\ y <= x.last := by
 obtain ⟨k, hk, rfl⟩ := List.mem_map.1 h
 have := List.mem_range.1 hk
 unfold yearsN at this
 omega
theorem okS_agree {vs : List Bool} {x : Wd} {y : Int} (hy : 0 <= y) (hv : -1 <= x.village) : okS vs (y, x) = agreeB vs x := by
 unfold okS agreeB
 rw [decide_eq_true hy]
 by_cases h : x.village = -1
 ·rw [decide_eq_true h, decide_eq_false (show ¬ (0 <= x.village) by omega)]
  rfl
 ·rw [decide_eq_false h, decide_eq_true (show 0 <= x.village by omega)]
  simp
theorem ends_ref {q : Pj} (hq : PlOk q) : ∀ (r : Nat) (l : List Int) (s : Sx) (b : Option (List Int × Int)), StOf q l s -> (l.zip q.works).all (okS q.villages) = true -> q.works.length - l.length = r ->
  (ends (srch q (-1)) r s).foldl (stepEW (srch q (-1)) false l) b = (endsR q r l).foldl (stepR q) b
 | 0, l, s, b, h, hc, _ => by
  simp only [ends, endsR, List.foldl_cons, List.foldl_nil]
  unfold stepEW stepR goodP allowB
  rw [List.append_nil, hc, Bool.true_and, <- st_spent h, <- st_enough hq h, <- h.c]
  show (if (!(!paidB q.purses s.p) && enoughB q.needs s.a && imp false b s.p.sum) = true then some (l, s.p.sum) else b) = _
  rw [Bool.not_not]
 | r + 1, l, s, b, h, hc, hr => by
  obtain ⟨x, hx⟩ := get_of_lt (l := q.works) (k := l.length) (by omega)
  have hxo := hq.ws x (List.mem_of_getElem? hx)
  have key : ∀ (ys : List Int) (b : Option (List Int × Int)), (∀ y ∈ ys, (y = -1 ∨ (0 <= y /\ y <= 4)) /\ okS q.villages (y, x) = true) ->
    (ys.flatMap fun y => (ends (srch q (-1)) r ((srch q (-1)).build s y)).map fun p => (y :: p.1, p.2)).foldl (stepEW (srch q (-1)) false l) b = (ys.flatMap fun y => endsR q r (l ++ [y])).foldl (stepR q) b := by
   intro ys
   induction ys with
   | nil => intro b _; rfl
   | cons y ys ih =>
    intro b hys
    have hy := hys y (by simp)
    rw [List.flatMap_cons, List.flatMap_cons, List.foldl_append, List.foldl_append, fold_move]
    rw [ends_ref hq r (l ++ [y]) ((srch q (-1)).build s y) b (st_next hq h hx hy.1) (by rw [zip_snoc y l _ x hx, List.all_append, hc, List.all_cons, hy.2]; rfl) (by rw [List.length_append]; simp; omega)]
    exact ih _ fun z hz => hys z (List.mem_cons_of_mem _ hz)
  have hk : (srch q (-1)).kids s = -1 :: (if !agreeB q.villages x then [] else yearsL x) := by
   show kidsS q (-1) s = _
   unfold kidsS
   rw [h.n, hx]
   dsimp only
   rw [decide_eq_false (show ¬ ((l.length : Int) = -1) by omega), Bool.false_or]
   rfl
  have hok1 : okS q.villages (-1, x) = true := by unfold okS; rw [decide_eq_false (show ¬ ((0 : Int) <= -1) by omega)]; rfl
  unfold ends endsR
  rw [hx, hk]
  dsimp only
  cases hag : agreeB q.villages x with
  | true =>
   rw [show (if (!true) = true then ([] : List Int) else yearsL x) = yearsL x from rfl]
   refine key _ b fun y hy => ?_
   rcases List.mem_cons.1 hy with rfl | hy
   ·exact ⟨.inl rfl, hok1⟩
   ·have := yearsL_in hy
    exact ⟨.inr (by omega), by rw [okS_agree (by omega) hxo.2.2.2.2.2.1]; exact hag⟩
  | false =>
   rw [show (if (!false) = true then ([] : List Int) else yearsL x) = [] from rfl]
   rw [key [-1] b fun y hy => by
    rw [List.mem_singleton] at hy
    subst hy
    exact ⟨.inl rfl, hok1⟩]
   rw [List.flatMap_cons (x := -1) (xs := yearsL x), List.foldl_append, foldR_bad (List.flatMap _ (yearsL x))]
   ·simp
   ·intro e he
    obtain ⟨y, hy, hey⟩ := List.mem_flatMap.1 he
    obtain ⟨t, rfl⟩ := endsR_pre q r _ e hey
    have hyb := yearsL_in hy
    unfold goodP allowB
    rw [all_bad (k := l.length) (x := (y, x)) (zip_at (by simp) hx) (by rw [okS_agree (by omega) hxo.2.2.2.2.2.1]; exact hag)]
    rfl
def mergeO (b o : Option (List Int × Int)) : Option (List Int × Int) := match o with
 | none => b
 | some p => if imp false b p.2 then some p else b
theorem merge_step {q : Pj} {e : List Int} (b o : Option (List Int × Int)) : mergeO (stepR q b e) o = mergeO b (mergeO (stepR q none e) o) := by
 unfold stepR
 cases hg : goodP q e with
 | false =>
  simp only [Bool.false_and, Bool.false_eq_true, if_false]
  cases o with
  | none => rfl
  | some p => simp [mergeO, imp]
 | true =>
  simp only [Bool.true_and, imp, if_true]
  cases o with
  | none => cases b <;> simp [mergeO, imp]
  | some p =>
   cases b with
   | none =>
    simp only [mergeO, imp, if_true, Bool.not_false, Bool.true_and, decide_eq_true_eq]
    split <;> simp
   | some z =>
    simp only [mergeO, imp, Bool.not_false, Bool.true_and, decide_eq_true_eq]
    by_cases h1 : costN q.works e < z.2
    ·by_cases h2 : p.2 < costN q.works e
     ·have h3 : p.2 < z.2 := by omega
      simp [h1, h2, h3]
     ·simp [h1, h2]
    ·by_cases h2 : p.2 < costN q.works e
     ·simp [h1, h2]
     ·have h3 : ¬ (p.2 < z.2) := by omega
      simp [h1, h2, h3]
theorem merge_fold {q : Pj} : ∀ (L : List (List Int)) (b : Option (List Int × Int)), L.foldl (stepR q) b = mergeO b (L.foldl (stepR q) none)
 | [], b => rfl
 | e :: L, b => by
  rw [List.foldl_cons, List.foldl_cons, merge_fold L (stepR q b e), merge_fold L (stepR q none e), merge_step]
def refStep (q : Pj) (f : List Int -> List Int × Bool) (l : List Int) (b : List Int × Bool) (y : Int) : List Int × Bool :=
 if (f (l ++ [y])).2 && (!b.2 || decide (costN q.works (f (l ++ [y])).1 < costN q.works b.1)) then ((f (l ++ [y])).1, true) else b
def refB (q : Pj) : Nat -> List Int -> List Int × Bool
 | 0, l => (l, goodP q l)
 | r + 1, l => match q.works[l.length]? with
  | some x => (yearsL x).foldl (refStep q (refB q r) l) (refB q r (l ++ [-1]))
  | none => (l, false)
def asO (ws : List Wd) (b : List Int × Bool) : Option (List Int × Int) := if b.2 then some (b.1, costN ws b.1) else none
theorem refStep_is {q : Pj} {f : List Int -> List Int × Bool} {l : List Int} {b : List Int × Bool} {y : Int} : asO q.works (refStep q f l b y) = mergeO (asO q.works b) (asO q.works (f (l ++ [y]))) := by
 unfold refStep asO
 obtain ⟨bl, bb⟩ := b
 obtain ⟨fl, fb⟩ := f (l ++ [y])
 cases fb <;> cases bb
 ·simp [mergeO]
 ·simp [mergeO]
 ·simp [mergeO, imp]
 ·dsimp only
  by_cases h : costN q.works fl < costN q.works bl
  ·simp [mergeO, imp, h]
  ·simp [mergeO, imp, h]
theorem refB_is {q : Pj} : ∀ (r : Nat) (l : List Int), q.works.length - l.length = r -> asO q.works (refB q r l) = (endsR q r l).foldl (stepR q) none
 | 0, l, _ => by
  show asO q.works (l, goodP q l) = stepR q none l
  unfold asO stepR
  cases goodP q l <;> rfl
 | r + 1, l, hr => by
  obtain ⟨x, hx⟩ := get_of_lt (l := q.works) (k := l.length) (by omega)
  unfold refB endsR
  rw [hx]
  dsimp only
  have ih : ∀ y : Int, asO q.works (refB q r (l ++ [y])) = (endsR q r (l ++ [y])).foldl (stepR q) none := fun y => refB_is r (l ++ [y]) (by rw [List.length_append]; simp; omega)
  have key : ∀ (ys : List Int) (b : List Int × Bool), asO q.works (ys.foldl (refStep q (refB q r) l) b) = (ys.flatMap fun y => endsR q r (l ++ [y])).foldl (stepR q) (asO q.works b) := by
   intro ys
   induction ys with
   | nil => intro b; rfl
   | cons y ys ihy =>
    intro b
    rw [List.foldl_cons, ihy, List.flatMap_cons, List.foldl_append, merge_fold (endsR q r (l ++ [y])), refStep_is, ih y]
  rw [key, ih, List.flatMap_cons, List.foldl_append]
theorem best_ref {q : Pj} (hq : PlOk q) : asO q.works (refB q q.works.length []) = bestD false q (-1) := by
 rw [refB_is q.works.length [] rfl]
 unfold bestD
 rw [show q.works.length - sx0.n = q.works.length from rfl]
 rw [(tryP_is (srch_ok q (-1) fun x hx => (hq.ws x hx).1) q.works.length sx0 [] [] none rfl (fun s hs => by simp at hs)).1]
 exact (ends_ref hq q.works.length [] sx0 none (st_zero hq) rfl rfl).symm
end

section
open Go.RowKit Go.Deep
def suffB (q : Pj) (plan : List Int) : Bool := decide (checkN q plan = 0) && (decide ((missP q plan).length = 0) && allowB q plan)
end

section
theorem mem_ends {q : Pj} : ∀ (r : Nat) (l plan : List Int), l.length + r = q.works.length ->
  (plan ∈ endsR q r l ↔ (∃ t, plan = l ++ t) /\ plan.length = q.works.length /\ ∀ (k : Nat) (y : Int) (x : Wd), l.length <= k -> plan[k]? = some y -> q.works[k]? = some x -> y = -1 ∨ (x.first <= y /\ y <= x.last))
 | 0, l, plan, h => by
  simp only [endsR, List.mem_singleton]
  constructor
  ·rintro rfl
   refine ⟨⟨[], by simp⟩, by omega, fun k y x hk hy => ?_⟩
   rw [List.getElem?_eq_none hk] at hy
   cases hy
  ·rintro ⟨⟨t, rfl⟩, hl, _⟩
   rw [List.length_append] at hl
   have : t = [] := List.eq_nil_of_length_eq_zero (by omega)
   rw [this, List.append_nil]
 | r + 1, l, plan, h => by
  unfold endsR
  obtain ⟨x, hx⟩ : ∃ x, q.works[l.length]? = some x := ⟨q.works[l.length]'(by omega), List.getElem?_eq_getElem (by omega)⟩
  rw [hx]
  dsimp only
  rw [List.mem_flatMap]
  have ih := fun y => mem_ends (q := q) r (l ++ [y]) plan (by rw [List.length_append, List.length_singleton]; omega)
  constructor
  ·rintro ⟨y, hy, hp⟩
   obtain ⟨⟨t, ht⟩, hlen, hk⟩ := (ih y).1 hp
   refine ⟨⟨y :: t, by rw [ht]; simp⟩, hlen, fun k z w hkl hz hw => ?_⟩
   by_cases he : k = l.length
   ·subst he
    rw [hx] at hw
    injection hw with hw
    subst hw
    rw [ht, List.append_assoc, List.getElem?_append_right (Nat.le_refl _)] at hz
    simp at hz
    subst hz
    rcases List.mem_cons.1 hy with rfl | hy
    ·exact .inl rfl
    ·exact .inr (yearsL_in hy)
   ·exact hk k z w (by rw [List.length_append, List.length_singleton]; omega) hz hw
  ·rintro ⟨⟨t, rfl⟩, hlen, hk⟩
   cases t with
   | nil =>
    rw [List.append_nil] at hlen
    omega
   | cons y t =>
    have hy := hk l.length y x (Nat.le_refl _) (by rw [List.getElem?_append_right (Nat.le_refl _)]; simp) hx
    refine ⟨y, ?_, ?_⟩
    ·rcases hy with rfl | ⟨h1, h2⟩
     ·exact List.mem_cons_self
     ·refine List.mem_cons_of_mem _ ?_
      unfold yearsL
      rw [List.mem_map]
      exact ⟨(y - x.first).toNat, List.mem_range.2 (by unfold yearsN; omega), by omega⟩
    ·rw [ih y]
     exact ⟨⟨t, by simp⟩, hlen, fun k z w hkl => hk k z w (by rw [List.length_append, List.length_singleton] at hkl; omega)⟩
theorem plan_iff {ws : List Wd} {plan : List Int} : planB ws plan = true ↔ plan.length = ws.length /\ ∀ (k : Nat) (y : Int) (x : Wd), plan[k]? = some y -> ws[k]? = some x -> y = -1 ∨ (x.first <= y /\ y <= x.last) := by
 unfold planB
 rw [Bool.and_eq_true, decide_eq_true_eq, List.all_eq_true]
 refine and_congr_right fun hl => ⟨fun h k y x hy hx => ?_, fun h z hz => ?_⟩
 ·have := h (y, x) (List.mem_of_getElem? (zip_at hy hx))
  simpa [okY, inB] using this
 ·obtain ⟨k, hk⟩ := List.getElem?_of_mem hz
  rw [List.getElem?_zip_eq_some] at hk
  have := h k z.1 z.2 hk.1 hk.2
  simpa [okY, inB] using this
theorem mem_plans {q : Pj} {plan : List Int} : plan ∈ endsR q q.works.length [] ↔ planB q.works plan = true := by
 rw [mem_ends q.works.length [] plan (by simp), plan_iff]
 exact ⟨fun h => ⟨h.2.1, fun k y x => h.2.2 k y x (Nat.zero_le _)⟩, fun h => ⟨⟨plan, by simp⟩, h.1, fun k y x _ => h.2 k y x⟩⟩
theorem fold_none {q : Pj} : ∀ (L : List (List Int)) (b : Option (List Int × Int)), L.foldl (stepR q) b = none ↔ b = none /\ ∀ e ∈ L, goodP q e = false
 | [], b => by simp
 | e :: L, b => by
  rw [List.foldl_cons, fold_none L]
  unfold stepR
  cases hg : goodP q e with
  | false => simp [hg]
  | true =>
   rw [Bool.true_and]
   cases b with
   | none => simp [imp, hg]
   | some z =>
    split <;> simp
theorem fold_bestW {q : Pj} {x : List Int} {c : Int} : ∀ (L : List (List Int)) (b : Option (List Int × Int)), L.foldl (stepR q) b = some (x, c) ->
  (b = some (x, c) ∨ (x ∈ L /\ goodP q x = true /\ c = costN q.works x)) /\ (∀ e ∈ L, goodP q e = true -> c <= costN q.works e) /\ ∀ x' c', b = some (x', c') -> c <= c'
 | [], b, h => by
  rw [List.foldl_nil] at h
  subst h
  refine ⟨.inl rfl, fun e he => by simp at he, fun x' c' h => ?_⟩
  cases h
  exact Int.le_refl _
 | e :: L, b, h => by
  rw [List.foldl_cons] at h
  obtain ⟨h1, h2, h3⟩ := fold_bestW L _ h
  unfold stepR at h1 h3
  split at h1
  ·rename_i hc
   rw [if_pos hc] at h3
   rw [Bool.and_eq_true] at hc
   have h4 := h3 _ _ rfl
   refine ⟨?_, ?_, ?_⟩
   ·rcases h1 with h1 | h1
    ·cases h1
     exact .inr ⟨List.mem_cons_self, hc.1, rfl⟩
    ·exact .inr ⟨List.mem_cons_of_mem _ h1.1, h1.2⟩
   ·intro z hz hg
    rcases List.mem_cons.1 hz with rfl | hz
    ·exact h4
    ·exact h2 z hz hg
   ·intro x' c' hb
    subst hb
    have := hc.2
    simp only [imp, Bool.not_false, Bool.true_and, decide_eq_true_eq] at this
    omega
  ·rename_i hc
   rw [if_neg hc] at h3
   refine ⟨?_, ?_, h3⟩
   ·rcases h1 with h1 | h1
    ·exact .inl h1
    ·exact .inr ⟨List.mem_cons_of_mem _ h1.1, h1.2⟩
   ·intro z hz hg
    rcases List.mem_cons.1 hz with rfl | hz
    ·rw [hg, Bool.true_and] at hc
     cases b with
     | none => simp [imp] at hc
     | some b =>
      have h5 := h3 b.1 b.2 rfl
      simp only [imp, Bool.not_false, Bool.true_and, decide_eq_true_eq] at hc
      omega
    ·exact h2 z hz hg
theorem bestD_fold {q : Pj} (hq : PlOk q) : bestD false q (-1) = (endsR q q.works.length []).foldl (stepR q) none := by
 rw [<- best_ref hq, refB_is q.works.length [] rfl]
theorem bestR_of {q : Pj} (hf : faultN q = 0) : bestR q = bestD false q (-1) := by unfold bestR; rw [if_pos hf]
theorem plOk_of {q : Pj} (h : FaultOk q) : PlOk q where
 ws x hx := by
  have hw := wdB_parts (h.ws x hx)
  have hy := h.years
  simp only [inB, Bool.and_eq_true, decide_eq_true_eq] at hy
  exact ⟨by omega, hw.2.1.1, hw.2.1.2.1, by omega, hw.2.2.1.1, hw.2.2.2.1.1, hw.2.2.2.2.2⟩
 ns n hn := by
  have hnd := h.ns n hn
  simp only [ndB, inB, Bool.and_eq_true, decide_eq_true_eq] at hnd
  omega
 nn := h.nn
theorem bestR_none {q : Pj} (hf : faultN q = 0) : bestR q = none ↔ ∀ plan, planB q.works plan = true -> goodP q plan = false := by
 rw [bestR_of hf, bestD_fold (plOk_of (faultOk_iff.1 hf)), fold_none]
 exact ⟨fun h plan hp => h.2 plan (mem_plans.2 hp), fun h => ⟨rfl, fun e he => h e (mem_plans.1 he)⟩⟩
theorem bestR_some {q : Pj} {x : List Int} {c : Int} (hf : faultN q = 0) (h : bestR q = some (x, c)) : planB q.works x = true /\ goodP q x = true /\ c = costN q.works x /\ ∀ plan, planB q.works plan = true -> goodP q plan = true -> c <= costN q.works plan := by
 rw [bestR_of hf, bestD_fold (plOk_of (faultOk_iff.1 hf))] at h
 obtain ⟨h1, h2, _⟩ := fold_bestW _ _ h
 rcases h1 with h1 | h1
 ·cases h1
 ·exact ⟨mem_plans.1 h1.1, h1.2.1, h1.2.2, fun plan hp hg => h2 plan (mem_plans.2 hp) hg⟩
theorem bestE_of {q : Pj} (hf : faultN q = 0) : bestE q = if (bestR q).isSome = true then 0 else 9 := by
 unfold bestE bestR
 rw [if_pos hf, if_pos hf]
theorem suffB_good {q : Pj} {plan : List Int} (hf : faultN q = 0) : suffB q plan = (planB q.works plan && goodP q plan) := by
 unfold suffB checkN goodP
 rw [if_pos hf]
 cases planB q.works plan with
 | false => rfl
 | true =>
  rw [Bool.and_comm (allowB q plan)]
  rfl
theorem due_worth {q : Pj} {plan : List Int} {sh : List Int} (hs : ∀ s ∈ sh, 0 <= s) (hn : ∀ n ∈ q.needs, 1 <= n.due) (hz : ∀ z ∈ plan.zip q.works, ∀ n ∈ q.needs, 0 <= addsN z.2 z.1 n.year (rAt z.2.adds n.slope.toNat).lo)
  (he : ∀ n ∈ q.needs, n.due <= togN false n.slope.toNat n.year q.works plan) : ∀ k, dueK q.needs sh k <= ((plan.zip q.works).map fun z => worthK z.2 z.1 q.needs sh k).sum
 | 0 => by
  simp only [dueK, worthK]
  exact sum_nonneg_map (f := fun _ => 0) _ fun _ _ => Int.le_refl _
 | k + 1 => by
  have ih := due_worth hs hn hz he k
  cases hk : q.needs[k]? with
  | none =>
   simp only [dueK, worthK, hk]
   simpa using ih
  | some n =>
   simp only [dueK, worthK, hk]
   rw [sum_add_map (fun z : Int × Wd => worthK z.2 z.1 q.needs sh k) (fun z : Int × Wd => iAt sh k * mnI n.due (addsN z.2 z.1 n.year (rAt z.2.adds n.slope.toNat).lo)), sum_mul_map]
   have hm := List.mem_of_getElem? hk
   have h0 : 0 <= iAt sh k := by
    unfold iAt
    cases hi : sh[k]? with
    | none => exact Int.le_refl _
    | some s => exact hs s (List.mem_of_getElem? hi)
   have h1 : n.due <= ((plan.zip q.works).map fun z => mnI n.due (addsN z.2 z.1 n.year (rAt z.2.adds n.slope.toNat).lo)).sum := by
    rcases sum_min (f := fun z : Int × Wd => addsN z.2 z.1 n.year (rAt z.2.adds n.slope.toNat).lo) (d := n.due) (by have := hn n hm; omega) (plan.zip q.works) (fun z hz' => hz z hz' n hm) with h | h
    ·exact h
    ·rw [h]
     exact he n hm
   have h2 := Int.mul_le_mul_of_nonneg_left h1 h0
   omega
theorem worth_never {x : Wd} {ns : List Nd} {sh : List Int} (hn : ∀ n ∈ ns, 1 <= n.due) : ∀ k, worthK x (-1) ns sh k = 0
 | 0 => rfl
 | k + 1 => by
  have ih := worth_never (x := x) (sh := sh) hn k
  cases hk : ns[k]? with
  | none =>
   simp only [worthK, hk, ih]
   rfl
  | some n =>
   have h1 := hn n (List.mem_of_getElem? hk)
   rw [worthK_at hk, ih, addsN_never]
   have : mnI n.due 0 = 0 := by unfold mnI; rw [if_pos (by omega)]
   rw [this]
   simp
theorem miss_zero {q : Pj} {plan : List Int} (h : (missP q plan).length = 0) : ∀ n ∈ q.needs, n.due <= togN false n.slope.toNat n.year q.works plan := by
 intro n hn
 obtain ⟨k, hk⟩ := List.getElem?_of_mem hn
 have h1 := (missK_zero q.needs.length).1 h k n (List.getElem?_eq_some_iff.1 hk).1 hk
 simp only [missB, decide_eq_false_iff_not] at h1
 omega
theorem bound_le {q : Pj} {plan sh : List Int} {bound : Int} (hf : faultN q = 0) (hp : planB q.works plan = true) (hg : goodP q plan = true) (hb : boundB q sh bound = true) : bound <= costN q.works plan := by
 have hq := faultOk_iff.1 hf
 unfold boundB at hb
 simp only [Bool.and_eq_true, decide_eq_true_eq, List.all_eq_true] at hb
 obtain ⟨⟨⟨⟨_, _⟩, hsh⟩, hwk⟩, hbd⟩ := hb
 unfold goodP allowB at hg
 simp only [Bool.and_eq_true, decide_eq_true_eq, List.all_eq_true] at hg
 obtain ⟨⟨hok, _⟩, hmiss⟩ := hg
 have hpl := plan_iff.1 hp
 have hn : ∀ n ∈ q.needs, 1 <= n.due := (plOk_of hq).ns
 have h1 := due_worth (q := q) (plan := plan) (sh := sh) (fun s hs => by have := hsh s hs; simp only [inB, Bool.and_eq_true, decide_eq_true_eq] at this; exact this.1) hn (fun z hz n hn' => by
  have hx := wdB_parts (hq.ws z.2 (List.of_mem_zip hz).2)
  have hr := rAt_bd (k := n.slope.toNat) hx.2.2.2.2.2
  exact (addsN_bd hr.1 hr.2 hx.2.2.1.1).1) (miss_zero hmiss) q.needs.length
 have h2 : ((plan.zip q.works).map fun z => worthK z.2 z.1 q.needs sh q.needs.length).sum <= ((plan.zip q.works).map fun z => 1000 * (if 0 <= z.1 then z.2.price else 0)).sum := by
  refine sum_le_map _ fun z hz => ?_
  obtain ⟨k, hk⟩ := List.getElem?_of_mem hz
  rw [List.getElem?_zip_eq_some] at hk
  rcases hpl.2 k z.1 z.2 hk.1 hk.2 with h3 | h3
  ·rw [h3, worth_never hn]
   simp
  ·have hm := (List.of_mem_zip hz).2
   have hx := wdB_parts (hq.ws z.2 hm)
   have ha : agreeB q.villages z.2 = true := by
    rw [<- okS_agree (y := z.1) (by omega) hx.2.2.2.1.1]
    exact hok z hz
   have h4 := hwk z.2 hm
   unfold workOk at h4
   rw [ha, Bool.not_true, Bool.false_or, List.all_eq_true] at h4
   have h5 := h4 (z.1 - z.2.first).toNat (List.mem_range.2 (by unfold yearsN; omega))
   unfold yearOk at h5
   rw [decide_eq_true_eq, show z.2.first + ((z.1 - z.2.first).toNat : Int) = z.1 by omega] at h5
   rw [if_pos (by omega)]
   exact h5
 rw [sum_mul_map] at h2
 unfold costN costT
 omega
end

section
open Go.RowKit Go.Deep
def bestL (q : Pj) : List Int := match bestR q with
 | some z => z.1
 | none => []
def bestC (L : List Int) (n E : Int) (w : World) (e : Ending) (w' : World) : Prop := (∃ A c, e = .returned (.tuple #[.slice A L.length c, vi n, vi E]) /\ Row intL 1 w' w'.heap.size A L) /\ newer w w'
theorem best_list {p : Pm} {q : Pj} {w : World} (hq : p.pj = q) (hok : PmOk p w) (few : PmFew p) (hpc : p.ps.length <= p.pc) :
  Calls Try.prog 11 #[pmV p] w (bestC (bestL q) (costOf (bestR q)) (bestE q) w) := by
 subst hq
 refine (worksBest_any p w hok few hpc).mono ?_
 rintro e w' ⟨⟨v, rfl, hp⟩, hb⟩
 refine ⟨?_, hb⟩
 unfold bestL
 cases hr : bestR p.pj with
 | none =>
  rw [hr] at hp
  obtain rfl : v = .slice none 0 0 := hp
  exact ⟨none, 0, rfl, Row.nil _⟩
 | some z =>
  rw [hr] at hp
  obtain ⟨⟨A, c, rfl, _⟩, ho⟩ := hp
  exact ⟨A, c, rfl, row_of_own (enc := intL) (size := 1) (by omega) (fun _ => rfl) (by rw [<- map_intL]; exact ho)⟩
theorem some_best {q : Pj} (hf : faultN q = 0) (h : bestE q = 0) : planB q.works (bestL q) = true /\ suffB q (bestL q) = true /\ costOf (bestR q) = costN q.works (bestL q) /\ (∀ l, suffB q l = true -> costOf (bestR q) <= costN q.works l) /\ ∀ sh b, boundB q sh b = true -> b <= costOf (bestR q) := by
 rw [bestE_of hf] at h
 cases hr : bestR q with
 | none => rw [hr] at h; exact absurd h (by decide)
 | some z =>
  obtain ⟨x, c⟩ := z
  obtain ⟨h1, h2, h3, h4⟩ := bestR_some hf hr
  have hL : bestL q = x := by unfold bestL; rw [hr]
  rw [hL]
  refine ⟨h1, by rw [suffB_good hf, h1, h2]; rfl, h3, fun l hl => ?_, fun sh b hb => ?_⟩
  ·rw [suffB_good hf, Bool.and_eq_true] at hl
   exact h4 l hl.1 hl.2
  ·show b <= c
   rw [h3]
   exact bound_le hf h1 h2 hb
end

section
open Go.RowKit Go.Deep
theorem togL_len {hi : Bool} {s : Nat} {y : Int} {ws : List Wd} {plan : List Int} (hl : plan.length = ws.length) : (togL hi s y ws plan).length = ws.length := by unfold togL; simp [hl]
end

section
open Go.ChangeShapes Go.WideShapes Go.ChangeAt Go.RowKit Go.Deep
theorem adds_plan {q : Pj} {plan : List Int} {s y : Nat} (hf : faultN q = 0) (hp : planB q.works plan = true) (hs : (s : Int) < q.slopes) (hy : (y : Int) < q.years) :
  addsV q plan s y = .tuple #[.agg #[vi (togN false s y q.works plan), vi (togN true s y q.works plan)], vi 0] := by
 have hc : checkN q plan = 0 := by
  unfold checkN
  rw [if_pos hf, hp]
  rfl
 have he : addsE q plan s y = 0 := by
  unfold addsE
  rw [if_pos hc, if_pos]
  simp only [inB, Bool.and_eq_true, decide_eq_true_eq]
  omega
 unfold addsV
 rw [if_pos he, Int.toNat_natCast]
theorem adds_of {p : Pm} {q : Pj} {plan : List Int} {s y : Nat} {L : Option Addr} {lp : Nat} {w : World} (hq : p.pj = q) (hok : PmOk p w) (few : PmFew p) (hl : plan.length <= 1000) (hf : faultN q = 0) (hp : planB q.works plan = true) (hs : (s : Int) < q.slopes) (hy : (y : Int) < q.years) (hr : Row intL 1 w w.heap.size L plan) :
  Calls Try.prog 18 #[pmV p, .slice L plan.length lp, .int .i64 s, .int .i64 y] w fun e w' => e = .returned (.tuple #[.agg #[vi (togN false s y q.works plan), vi (togN true s y q.works plan)], vi 0]) /\ newer w w' := by
 subst hq
 have h := worksAdds_any p plan L lp s y w hok few hl hr
 rw [adds_plan hf hp hs hy] at h
 exact h
def vPrj (q : Pj) (v : Value) (W : World) : Prop := ∃ p : Pm, v = pmV p /\ p.pj = q /\ PmOk p W /\ p.ps.length <= p.pc
theorem vPrj_st {q : Pj} : ∀ v W W', vPrj q v W -> newer W W' -> vPrj q v W' := fun _ _ _ ⟨p, h1, h2, h3, h4⟩ hb => ⟨p, h1, h2, h3.next hb, h4⟩
end

section
def nearL (n b : Nat) : List Nat := List.range' (b - 1) (min (n - 1) (b + 1) + 1 - (b - 1))
theorem mem_near {n b x : Nat} (hb : b < n) : x ∈ nearL n b ↔ x < n /\ b <= x + 1 /\ x <= b + 1 := by
 unfold nearL
 rw [List.mem_range'_1]
 omega
def minL (z : Int) (l : List Int) : Int := l.foldl mnI z
theorem minL_le : ∀ (l : List Int) (z : Int), minL z l <= z /\ ∀ x ∈ l, minL z l <= x
 | [], z => ⟨Int.le_refl _, fun x h => by simp at h⟩
 | y :: l, z => by
  have h := minL_le l (mnI z y)
  have h2 : mnI z y <= z /\ mnI z y <= y := by unfold mnI; split <;> omega
  refine ⟨Int.le_trans h.1 h2.1, fun x hx => ?_⟩
  rcases List.mem_cons.1 hx with rfl | hx
  ·exact Int.le_trans h.1 h2.2
  ·exact h.2 x hx
theorem minL_mem : ∀ (l : List Int) (z : Int), minL z l = z ∨ minL z l ∈ l
 | [], z => .inl rfl
 | y :: l, z => by
  rcases minL_mem l (mnI z y) with h | h
  ·have h2 : mnI z y = z ∨ mnI z y = y := by unfold mnI; split <;> simp
   rcases h2 with h2 | h2
   ·exact .inl (h.trans h2)
   ·exact .inr (List.mem_cons.2 (.inl (h.trans h2)))
  ·exact .inr (List.mem_cons.2 (.inr h))
def restN (c : Nat -> Nat -> Int) (n : Nat) (big : Int) : Nat -> Nat -> Nat -> Int
 | 0, k, b => c k b
 | m + 1, k, b => c k b + minL big ((nearL n b).map (restN c n big m (k + 1)))
def costP (c : Nat -> Nat -> Int) : Nat -> List Nat -> Int
 | _, [] => 0
 | k, b :: t => c k b + costP c (k + 1) t
def wayB (n : Nat) : List Nat -> Prop
 | [] => True
 | b :: t => b < n /\ (∀ x, t.head? = some x -> b <= x + 1 /\ x <= b + 1) /\ wayB n t
theorem rest_le {c : Nat -> Nat -> Int} {n : Nat} {big : Int} : ∀ (t : List Nat) (k b : Nat), wayB n (b :: t) -> restN c n big t.length k b <= costP c k (b :: t)
 | [], k, b, _ => by simp [restN, costP]
 | x :: t, k, b, h => by
  obtain ⟨hb, hx, ht⟩ := h
  have ih := rest_le (c := c) (big := big) t (k + 1) x ht
  have hx2 := hx x rfl
  have h1 := (minL_le ((nearL n b).map (restN c n big t.length (k + 1))) big).2 _ (List.mem_map.2 ⟨x, (mem_near hb).2 ⟨ht.1, hx2⟩, rfl⟩)
  simp only [List.length_cons, restN, costP] at ih ⊢
  omega
def stepB (c : Nat -> Nat -> Int) (n : Nat) (big : Int) (m k b : Nat) : Nat := (nearL n b).foldl (fun best x => if restN c n big m (k + 1) x < restN c n big m (k + 1) best then x else best) b
theorem fold_best {f : Nat -> Int} : ∀ (l : List Nat) (b : Nat), (l.foldl (fun best x => if f x < f best then x else best) b = b ∨ l.foldl (fun best x => if f x < f best then x else best) b ∈ l) /\ f (l.foldl (fun best x => if f x < f best then x else best) b) <= f b /\ ∀ x ∈ l, f (l.foldl (fun best x => if f x < f best then x else best) b) <= f x
 | [], b => ⟨.inl rfl, Int.le_refl _, fun x h => by simp at h⟩
 | y :: l, b => by
  rw [List.foldl_cons]
  by_cases hy : f y < f b
  ·rw [if_pos hy]
   obtain ⟨h1, h2, h3⟩ := fold_best (f := f) l y
   refine ⟨.inr ?_, by omega, fun x hx => ?_⟩
   ·rcases h1 with h1 | h1
    ·rw [h1]; exact List.mem_cons_self
    ·exact List.mem_cons_of_mem _ h1
   ·rcases List.mem_cons.1 hx with rfl | hx
    ·exact h2
    ·exact h3 x hx
  ·rw [if_neg hy]
   obtain ⟨h1, h2, h3⟩ := fold_best (f := f) l b
   refine ⟨?_, h2, fun x hx => ?_⟩
   ·rcases h1 with h1 | h1
    ·exact .inl h1
    ·exact .inr (List.mem_cons_of_mem _ h1)
   ·rcases List.mem_cons.1 hx with rfl | hx
    ·omega
    ·exact h3 x hx
theorem step_mem {c : Nat -> Nat -> Int} {n : Nat} {big : Int} {m k b : Nat} (hb : b < n) : stepB c n big m k b < n /\ b <= stepB c n big m k b + 1 /\ stepB c n big m k b <= b + 1 := by
 rcases (fold_best (f := restN c n big m (k + 1)) (nearL n b) b).1 with h | h
 ·unfold stepB
  rw [h]
  omega
 ·exact (mem_near hb).1 h
theorem rest_abs {c : Nat -> Nat -> Int} {n : Nat} {big B : Int} (hc : ∀ k b, b < n -> -B <= c k b /\ c k b <= B) (h0 : 0 <= B) : ∀ (m k b : Nat), b < n -> (m : Int) * B <= big -> -((m + 1 : Nat) : Int) * B <= restN c n big m k b /\ restN c n big m k b <= ((m + 1 : Nat) : Int) * B
 | 0, k, b, hb, _ => by have := hc k b hb; simp [restN]; omega
 | m + 1, k, b, hb, hm => by
  have e1 : ((m + 1 : Nat) : Int) * B = m * B + B := by rw [Int.natCast_add, Int.add_mul]; simp
  have e2 : ((m + 1 + 1 : Nat) : Int) * B = m * B + B + B := by rw [Int.natCast_add, Int.add_mul, e1]; simp
  have hmb : 0 <= (m : Int) * B := Int.mul_nonneg (by omega) h0
  have ih := fun x hx => rest_abs (big := big) hc h0 m (k + 1) x hx (by omega)
  have hcb := hc k b hb
  have h1 := (minL_le ((nearL n b).map (restN c n big m (k + 1))) big).2 _ (List.mem_map.2 ⟨b, (mem_near hb).2 (by omega), rfl⟩)
  have h2 := (ih b hb).2
  have h3 : -(m * B + B) <= minL big ((nearL n b).map (restN c n big m (k + 1))) := by
   rcases minL_mem ((nearL n b).map (restN c n big m (k + 1))) big with h | h
   ·rw [h]; omega
   ·obtain ⟨x, hx, hxe⟩ := List.mem_map.1 h
    have := (ih x ((mem_near hb).1 hx).1).1
    rw [Int.neg_mul, e1] at this
    omega
  rw [Int.neg_mul, e2]
  rw [e1] at h2
  simp only [restN]
  omega
theorem rest_step {c : Nat -> Nat -> Int} {n : Nat} {big B : Int} (hc : ∀ k b, b < n -> -B <= c k b /\ c k b <= B) (h0 : 0 <= B) {m k b : Nat} (hb : b < n) (hm : ((m + 1 : Nat) : Int) * B <= big) : restN c n big (m + 1) k b = c k b + restN c n big m (k + 1) (stepB c n big m k b) := by
 have e1 : ((m + 1 : Nat) : Int) * B = m * B + B := by rw [Int.natCast_add, Int.add_mul]; simp
 have hmb : 0 <= (m : Int) * B := Int.mul_nonneg (by omega) h0
 simp only [restN]
 congr 1
 obtain ⟨h1, h2, h3⟩ := fold_best (f := restN c n big m (k + 1)) (nearL n b) b
 have hs := step_mem (c := c) (big := big) (m := m) (k := k) hb
 have h4 := (minL_le ((nearL n b).map (restN c n big m (k + 1))) big).2 _ (List.mem_map.2 ⟨stepB c n big m k b, (mem_near hb).2 hs, rfl⟩)
 have h5 := (rest_abs (big := big) hc h0 m (k + 1) b hb (by omega)).2
 rcases minL_mem ((nearL n b).map (restN c n big m (k + 1))) big with h | h
 ·have h7 : restN c n big m (k + 1) (stepB c n big m k b) <= restN c n big m (k + 1) b := h2
  omega
 ·obtain ⟨x, hx, hxe⟩ := List.mem_map.1 h
  have h6 : restN c n big m (k + 1) (stepB c n big m k b) <= restN c n big m (k + 1) x := h3 x hx
  omega
def pathB (c : Nat -> Nat -> Int) (n : Nat) (big : Int) : Nat -> Nat -> Nat -> List Nat
 | 0, _, b => [b]
 | m + 1, k, b => b :: pathB c n big m (k + 1) (stepB c n big m k b)
theorem path_len {c : Nat -> Nat -> Int} {n : Nat} {big : Int} : ∀ (m k b : Nat), (pathB c n big m k b).length = m + 1
 | 0, _, _ => rfl
 | m + 1, k, b => by simp [pathB, path_len m]
theorem path_head {c : Nat -> Nat -> Int} {n : Nat} {big : Int} : ∀ (m k b : Nat), (pathB c n big m k b).head? = some b
 | 0, _, _ => rfl
 | _ + 1, _, _ => rfl
theorem path_way {c : Nat -> Nat -> Int} {n : Nat} {big : Int} : ∀ (m k b : Nat), b < n -> wayB n (pathB c n big m k b)
 | 0, _, _, h => ⟨h, fun x hx => by simp at hx, trivial⟩
 | m + 1, k, b, h => by
  have hs := step_mem (c := c) (big := big) (m := m) (k := k) h
  refine ⟨h, fun x hx => ?_, path_way m (k + 1) _ hs.1⟩
  rw [path_head] at hx
  injection hx with hx
  omega
theorem path_cost {c : Nat -> Nat -> Int} {n : Nat} {big B : Int} (hc : ∀ k b, b < n -> -B <= c k b /\ c k b <= B) (h0 : 0 <= B) : ∀ (m k b : Nat), b < n -> (m : Int) * B <= big -> costP c k (pathB c n big m k b) = restN c n big m k b
 | 0, k, b, _, _ => by simp [pathB, costP, restN]
 | m + 1, k, b, hb, hm => by
  have e1 : ((m + 1 : Nat) : Int) * B = m * B + B := by rw [Int.natCast_add, Int.add_mul]; simp
  rw [rest_step hc h0 hb hm]
  simp only [pathB, costP]
  rw [path_cost hc h0 m (k + 1) _ (step_mem hb).1 (by omega)]
def firstB (f : Nat -> Int) (big : Int) : Nat -> Int × Nat
 | 0 => (big, 0)
 | b + 1 => if f b < (firstB f big b).1 then (f b, b) else firstB f big b
theorem first_is {f : Nat -> Int} {big : Int} : ∀ n, (firstB f big n).1 <= big /\ (∀ b, b < n -> (firstB f big n).1 <= f b) /\ (firstB f big n = (big, 0) ∨ ((firstB f big n).2 < n /\ (firstB f big n).1 = f (firstB f big n).2))
 | 0 => ⟨Int.le_refl _, fun b h => by omega, .inl rfl⟩
 | n + 1 => by
  obtain ⟨h1, h2, h3⟩ := first_is (f := f) (big := big) n
  unfold firstB
  by_cases h : f n < (firstB f big n).1
  ·rw [if_pos h]
   refine ⟨by show f n <= big; omega, fun b hb => ?_, .inr ⟨Nat.lt_succ_self n, rfl⟩⟩
   show f n <= f b
   by_cases he : b = n
   ·rw [he]; exact Int.le_refl _
   ·have := h2 b (by omega); omega
  ·rw [if_neg h]
   refine ⟨h1, fun b hb => ?_, ?_⟩
   ·by_cases he : b = n
    ·rw [he]; omega
    ·exact h2 b (by omega)
   ·rcases h3 with h3 | h3
    ·exact .inl h3
    ·exact .inr ⟨by omega, h3.2⟩
def cheapN (c : Nat -> Nat -> Int) (n : Nat) (big : Int) (m k : Nat) : List Nat × Int := (pathB c n big m k (firstB (restN c n big m k) big n).2, (firstB (restN c n big m k) big n).1)
theorem cheap_is {c : Nat -> Nat -> Int} {n : Nat} {big B : Int} (hc : ∀ k b, b < n -> -B <= c k b /\ c k b <= B) (h0 : 0 <= B) (hn : 0 < n) {m k : Nat} (hm : ((m + 1 : Nat) : Int) * B < big) :
  (cheapN c n big m k).1.length = m + 1 /\ wayB n (cheapN c n big m k).1 /\ costP c k (cheapN c n big m k).1 = (cheapN c n big m k).2 /\ ∀ l, l.length = m + 1 -> wayB n l -> (cheapN c n big m k).2 <= costP c k l := by
 have e1 : ((m + 1 : Nat) : Int) * B = m * B + B := by rw [Int.natCast_add, Int.add_mul]; simp
 have hmb : 0 <= (m : Int) * B := Int.mul_nonneg (by omega) h0
 obtain ⟨h1, h2, h3⟩ := first_is (f := restN c n big m k) (big := big) n
 have hne : firstB (restN c n big m k) big n ≠ (big, 0) := by
  intro e
  have h4 := h2 0 hn
  have h5 := (rest_abs (big := big) hc h0 m k 0 hn (by omega)).2
  rw [e] at h4
  dsimp only at h4
  omega
 obtain ⟨h6, h7⟩ := h3.resolve_left hne
 refine ⟨path_len _ _ _, path_way _ _ _ h6, ?_, fun l hl hw => ?_⟩
 ·unfold cheapN
  dsimp only
  rw [path_cost hc h0 m k _ h6 (by omega), h7]
 ·cases l with
  | nil => simp at hl
  | cons b t =>
   have h8 := rest_le (c := c) (big := big) t k b hw
   have h9 := h2 b hw.1
   have : t.length = m := by simpa using hl
   rw [this] at h8
   exact Int.le_trans h9 h8
def sumH (h : Nat -> Nat -> Int) : Nat -> List Nat -> Int
 | _, [] => 0
 | k, b :: t => h k b + sumH h (k + 1) t
theorem cost_sums {h d : Nat -> Nat -> Int} {f : Int} : ∀ (l : List Nat) (k : Nat), costP (fun k b => 1000 * h k b - f * d k b) k l = 1000 * sumH h k l - f * sumH d k l
 | [], k => by simp [costP, sumH]
 | b :: t, k => by
  have ih := cost_sums (h := h) (d := d) (f := f) t (k + 1)
  simp only [costP, sumH, Int.mul_add] at ih ⊢
  omega
theorem sumH_nonneg {h : Nat -> Nat -> Int} (hh : ∀ k b, 0 <= h k b) : ∀ (l : List Nat) (k : Nat), 0 <= sumH h k l
 | [], k => Int.le_refl _
 | b :: t, k => by
  have := hh k b
  have := sumH_nonneg hh t (k + 1)
  simp only [sumH]
  omega
theorem neg_iff {H D f : Int} (hH : 0 <= H) (hf : 0 <= f) : 1000 * H - f * D < 0 ↔ 1 <= D /\ 1000 * H / D < f := by
 constructor
 ·intro h
  have hD : 1 <= D := by
   by_cases h1 : D < 1
   ·have : f * D <= 0 := Int.mul_nonpos_of_nonneg_of_nonpos hf (by omega)
    omega
   ·omega
  refine ⟨hD, ?_⟩
  rw [Int.ediv_lt_iff_lt_mul (by omega)]
  omega
 ·rintro ⟨h1, h2⟩
  rw [Int.ediv_lt_iff_lt_mul (by omega)] at h2
  omega
def factorN (H D : Int) : Int := mnI 10000 (1000 * H / D)
theorem factor_bd {H D : Int} (hH : 0 <= H) (hD : 1 <= D) : 0 <= factorN H D /\ factorN H D <= 10000 := by
 have := Int.ediv_nonneg (a := 1000 * H) (b := D) (by omega) (by omega)
 unfold factorN mnI
 split <;> omega
def SurfB (n cols K k : Nat) (l : List Nat) : Prop := K <= l.length /\ k + l.length <= cols /\ wayB n l
def LowB (c : Nat -> Nat -> Int) (n cols K : Nat) : Prop := ∃ k l, SurfB n cols K k l /\ costP c k l < 0
def firstN (p : Nat -> Bool) (a : Nat) : Nat -> Nat
 | 0 => a
 | n + 1 => if p a then a else firstN p (a + 1) n
theorem firstN_is {p : Nat -> Bool} : ∀ (n a : Nat), a <= firstN p a n /\ firstN p a n <= a + n /\ (∀ m, a <= m -> m < firstN p a n -> p m = false) /\ (firstN p a n < a + n -> p (firstN p a n) = true)
 | 0, a => ⟨Nat.le_refl _, Nat.le_refl _, fun m h1 h2 => by simp only [firstN] at h2; omega, fun h => by simp only [firstN] at h; omega⟩
 | n + 1, a => by
  unfold firstN
  cases hp : p a with
  | true =>
   rw [if_pos rfl]
   exact ⟨Nat.le_refl _, by omega, fun m h1 h2 => by omega, fun _ => hp⟩
  | false =>
   rw [if_neg (by decide)]
   obtain ⟨h1, h2, h3, h4⟩ := firstN_is (p := p) n (a + 1)
   refine ⟨by omega, by omega, fun m hm1 hm2 => ?_, fun h => h4 (by omega)⟩
   by_cases he : m = a
   ·rw [he]; exact hp
   ·exact h3 m (by omega) hm2
theorem firstN_unique {p : Nat -> Bool} {a n L : Nat} (h1 : a <= L) (h2 : L <= a + n) (h3 : ∀ m, a <= m -> m < L -> p m = false) (h4 : L < a + n -> p L = true) : L = firstN p a n := by
 obtain ⟨g1, g2, g3, g4⟩ := firstN_is (p := p) n a
 rcases Nat.lt_trichotomy L (firstN p a n) with h | h | h
 ·have := g3 L h1 h
  rw [h4 (by omega)] at this
  cases this
 ·exact h
 ·have := h3 _ g1 h
  rw [g4 (by omega)] at this
  cases this
def lowIn (c : Nat -> Nat -> Int) (n : Nat) (big : Int) (k : Nat) : Nat -> Nat -> Option (List Nat)
 | _, 0 => none
 | m, j + 1 => if (cheapN c n big m k).2 < 0 then some (cheapN c n big m k).1 else lowIn c n big k (m + 1) j
def lowS (c : Nat -> Nat -> Int) (n : Nat) (big : Int) (cols K : Nat) : Nat -> Nat -> Option (Nat × List Nat)
 | _, 0 => none
 | k, j + 1 => match lowIn c n big k (K - 1) (cols - (k + (K - 1))) with
  | some l => some (k, l)
  | none => lowS c n big cols K (k + 1) j
section
variable {c : Nat -> Nat -> Int} {n cols K : Nat} {big B : Int}
theorem lowIn_is (hc : ∀ k b, b < n -> -B <= c k b /\ c k b <= B) (h0 : 0 <= B) (hn : 0 < n) (k : Nat) : ∀ (j m : Nat), ((m + j : Nat) : Int) * B < big ->
  (lowIn c n big k m j = none -> ∀ i l, i < j -> l.length = m + i + 1 -> wayB n l -> 0 <= costP c k l) /\ (∀ l, lowIn c n big k m j = some l -> ∃ i, i < j /\ l.length = m + i + 1 /\ wayB n l /\ costP c k l < 0)
 | 0, m, _ => ⟨fun _ i l h => by omega, fun l h => by simp [lowIn] at h⟩
 | j + 1, m, hb => by
  have e1 : ((m + 1 : Nat) : Int) * B <= ((m + (j + 1) : Nat) : Int) * B := Int.mul_le_mul_of_nonneg_right (by omega) h0
  obtain ⟨g1, g2, g3, g4⟩ := cheap_is (big := big) hc h0 hn (m := m) (k := k) (by omega)
  obtain ⟨i1, i2⟩ := lowIn_is hc h0 hn k j (m + 1) (by rw [show m + 1 + j = m + (j + 1) by omega]; exact hb)
  unfold lowIn
  by_cases h : (cheapN c n big m k).2 < 0
  ·rw [if_pos h]
   refine ⟨fun h => by simp at h, fun l hl => ⟨0, by omega, ?_⟩⟩
   injection hl with hl
   subst hl
   exact ⟨by omega, g2, by omega⟩
  ·rw [if_neg h]
   refine ⟨fun hl i l hi hlen hw => ?_, fun l hl => ?_⟩
   ·by_cases he : i = 0
    ·subst he
     have := g4 l (by omega) hw
     omega
    ·exact i1 hl (i - 1) l (by omega) (by omega) hw
   ·obtain ⟨i, q1, q2, q3⟩ := i2 l hl
    exact ⟨i + 1, by omega, by omega, q3⟩
theorem lowS_is (hc : ∀ k b, b < n -> -B <= c k b /\ c k b <= B) (h0 : 0 <= B) (hn : 0 < n) (hK : 1 <= K) (hb : ((cols + K : Nat) : Int) * B < big) : ∀ (j k : Nat), k + j = cols ->
  (lowS c n big cols K k j = none -> ∀ x l, k <= x -> SurfB n cols K x l -> 0 <= costP c x l) /\ (∀ x l, lowS c n big cols K k j = some (x, l) -> SurfB n cols K x l /\ costP c x l < 0)
 | 0, k, hk => ⟨fun _ x l hx hs => by have := hs.1; have := hs.2.1; omega, fun x l h => by simp [lowS] at h⟩
 | j + 1, k, hk => by
  have e1 : ((K - 1 + (cols - (k + (K - 1))) : Nat) : Int) * B <= ((cols + K : Nat) : Int) * B := Int.mul_le_mul_of_nonneg_right (by omega) h0
  obtain ⟨g1, g2⟩ := lowIn_is (big := big) hc h0 hn k (cols - (k + (K - 1))) (K - 1) (by omega)
  obtain ⟨i1, i2⟩ := lowS_is hc h0 hn hK hb j (k + 1) (by omega)
  unfold lowS
  cases hl : lowIn c n big k (K - 1) (cols - (k + (K - 1))) with
  | some l =>
   refine ⟨fun h => by simp at h, fun x l' h => ?_⟩
   simp only [Option.some.injEq, Prod.mk.injEq] at h
   obtain ⟨rfl, rfl⟩ := h
   obtain ⟨i, q1, q2, q3, q4⟩ := g2 l hl
   exact ⟨⟨by omega, by omega, q3⟩, q4⟩
  | none =>
   refine ⟨fun h x l hx hs => ?_, fun x l h => i2 x l h⟩
   by_cases he : x = k
   ·subst he
    have h1 := hs.1
    have h2 := hs.2.1
    exact g1 hl (l.length - K) l (by omega) (by omega) hs.2.2
   ·exact i1 h x l (by omega) hs
theorem lowS_iff (hc : ∀ k b, b < n -> -B <= c k b /\ c k b <= B) (h0 : 0 <= B) (hn : 0 < n) (hK : 1 <= K) (hb : ((cols + K : Nat) : Int) * B < big) : (lowS c n big cols K 0 cols).isSome = true ↔ LowB c n cols K := by
 obtain ⟨h1, h2⟩ := lowS_is (cols := cols) hc h0 hn hK hb cols 0 (by omega)
 constructor
 ·intro h
  obtain ⟨⟨x, l⟩, hx⟩ := Option.isSome_iff_exists.1 h
  exact ⟨x, l, h2 x l hx⟩
 ·rintro ⟨x, l, hs, hcs⟩
  cases hl : lowS c n big cols K 0 cols with
  | some _ => rfl
  | none =>
   have := h1 hl x l (Nat.zero_le _) hs
   omega
end
abbrev bigN : Int := 1000000000000000
def cF (h d : Nat -> Nat -> Int) (f : Int) : Nat -> Nat -> Int := fun k b => 1000 * h k b - f * d k b
structure HdOk (h d : Nat -> Nat -> Int) (n cols K : Nat) : Prop where
 h0 : ∀ k b, 0 <= h k b
 h1 : ∀ k b, h k b <= 300000
 d0 : ∀ k b, -100000 <= d k b
 d1 : ∀ k b, d k b <= 100000
 n0 : 0 < n
 K0 : 1 <= K
 few : cols + K <= 1000
section
variable {h d : Nat -> Nat -> Int} {n cols K : Nat} {f g : Int}
theorem cF_bd (ok : HdOk h d n cols K) (f0 : 0 <= f) (f1 : f <= 10001) (k b : Nat) : -1300100000 <= cF h d f k b /\ cF h d f k b <= 1300100000 := by
 have a1 := ok.h0 k b
 have a2 := ok.h1 k b
 have a3 := Int.mul_le_mul_of_nonneg_left (ok.d1 k b) f0
 have a4 := Int.mul_le_mul_of_nonneg_left (ok.d0 k b) f0
 unfold cF
 omega
def lowF (h d : Nat -> Nat -> Int) (n cols K : Nat) (f : Int) : Option (Nat × List Nat) := lowS (cF h d f) n bigN cols K 0 cols
theorem few_big (ok : HdOk h d n cols K) : ((cols + K : Nat) : Int) * 1300100000 < bigN := by
 have := ok.few
 show ((cols + K : Nat) : Int) * 1300100000 < 1000000000000000
 omega
theorem lowF_iff (ok : HdOk h d n cols K) (f0 : 0 <= f) (f1 : f <= 10001) : (lowF h d n cols K f).isSome = true ↔ ∃ k l, SurfB n cols K k l /\ 1 <= sumH d k l /\ 1000 * sumH h k l / sumH d k l < f := by
 unfold lowF
 rw [lowS_iff (B := 1300100000) (fun k b _ => cF_bd ok f0 f1 k b) (by omega) ok.n0 ok.K0 (few_big ok)]
 unfold LowB
 refine exists_congr fun k => exists_congr fun l => and_congr_right fun _ => ?_
 unfold cF
 rw [cost_sums, neg_iff (sumH_nonneg ok.h0 l k) f0]
theorem lowF_none (ok : HdOk h d n cols K) (f0 : 0 <= f) (f1 : f <= 10001) (hl : lowF h d n cols K f = none) {k : Nat} {l : List Nat} (hs : SurfB n cols K k l) (hd : 1 <= sumH d k l) : f <= 1000 * sumH h k l / sumH d k l := by
 by_cases hlt : 1000 * sumH h k l / sumH d k l < f
 ·have := (lowF_iff ok f0 f1).2 ⟨k, l, hs, hd, hlt⟩
  rw [hl] at this
  cases this
 ·omega
theorem lowF_some (ok : HdOk h d n cols K) (f0 : 0 <= f) (f1 : f <= 10001) {k : Nat} {l : List Nat} (hl : lowF h d n cols K f = some (k, l)) : SurfB n cols K k l /\ 1 <= sumH d k l /\ 1000 * sumH h k l / sumH d k l < f := by
 obtain ⟨h1, h2⟩ := (lowS_is (B := 1300100000) (fun k b _ => cF_bd ok f0 f1 k b) (by omega) ok.n0 ok.K0 (few_big ok) cols 0 (by omega)).2 k l hl
 unfold cF at h2
 rw [cost_sums, neg_iff (sumH_nonneg ok.h0 l k) f0] at h2
 exact ⟨h1, h2⟩
theorem lowF_mono (ok : HdOk h d n cols K) (f0 : 0 <= f) (hg : f <= g) (g1 : g <= 10001) (hl : (lowF h d n cols K f).isSome = true) : (lowF h d n cols K g).isSome = true := by
 rw [lowF_iff ok f0 (by omega)] at hl
 rw [lowF_iff ok (by omega) g1]
 obtain ⟨k, l, h1, h2, h3⟩ := hl
 exact ⟨k, l, h1, h2, by omega⟩
def worstL (h d : Nat -> Nat -> Int) (n cols K : Nat) : Nat := firstN (fun f => (lowF h d n cols K f).isSome) 1 10000
def worstR (h d : Nat -> Nat -> Int) (n cols K : Nat) : Option ((Nat × List Nat) × Int) :=
 if worstL h d n cols K <= 10000 then (lowF h d n cols K (worstL h d n cols K)).map fun u => (u, (worstL h d n cols K : Int) - 1)
 else (lowF (fun _ _ => 0) d n cols K 1).map fun u => (u, 10000)
theorem zero_ok (ok : HdOk h d n cols K) : HdOk (fun _ _ => 0) d n cols K := ⟨fun _ _ => Int.le_refl _, fun _ _ => by omega, ok.d0, ok.d1, ok.n0, ok.K0, ok.few⟩
theorem worst_some (ok : HdOk h d n cols K) {k : Nat} {l : List Nat} {v : Int} (hw : worstR h d n cols K = some ((k, l), v)) :
  SurfB n cols K k l /\ 1 <= sumH d k l /\ factorN (sumH h k l) (sumH d k l) = v /\ ∀ x m, SurfB n cols K x m -> 1 <= sumH d x m -> v <= factorN (sumH h x m) (sumH d x m) := by
 obtain ⟨g1, g2, g3, g4⟩ := firstN_is (p := fun f => (lowF h d n cols K f).isSome) 10000 1
 unfold worstR at hw
 unfold worstL at hw
 obtain ⟨L, hL⟩ : ∃ L, L = firstN (fun f => (lowF h d n cols K f).isSome) 1 10000 := ⟨_, rfl⟩
 rw [<- hL] at hw g1 g2 g3 g4
 by_cases hle : L <= 10000
 ·rw [if_pos hle, Option.map_eq_some_iff] at hw
  obtain ⟨u, hu, he⟩ := hw
  simp only [Prod.mk.injEq] at he
  obtain ⟨rfl, rfl⟩ := he
  obtain ⟨a1, a2, a3⟩ := lowF_some ok (by omega) (by omega) hu
  have low : ∀ x m, SurfB n cols K x m -> 1 <= sumH d x m -> (L : Int) - 1 <= 1000 * sumH h x m / sumH d x m := by
   intro x m hs hd
   by_cases h1 : L = 1
   ·have := Int.ediv_nonneg (a := 1000 * sumH h x m) (b := sumH d x m) (by have := sumH_nonneg ok.h0 m x; omega) (by omega)
    omega
   ·have h2 := g3 (L - 1) (by omega) (by omega)
    have h3 : lowF h d n cols K ((L - 1 : Nat) : Int) = none := by
     cases hq : lowF h d n cols K ((L - 1 : Nat) : Int) with
     | none => rfl
     | some q => rw [hq] at h2; cases h2
    have h4 := lowF_none ok (by omega) (by omega) h3 hs hd
    omega
  refine ⟨a1, a2, ?_, fun x m hs hd => ?_⟩
  ·have := low k l a1 a2
   unfold factorN mnI
   split <;> omega
  ·have := low x m hs hd
   unfold factorN mnI
   split <;> omega
 ·rw [if_neg hle, Option.map_eq_some_iff] at hw
  obtain ⟨u, hu, he⟩ := hw
  simp only [Prod.mk.injEq] at he
  obtain ⟨rfl, rfl⟩ := he
  obtain ⟨a1, a2, a3⟩ := lowF_some (zero_ok ok) (by omega) (by omega) hu
  have low : ∀ x m, SurfB n cols K x m -> 1 <= sumH d x m -> factorN (sumH h x m) (sumH d x m) = 10000 := by
   intro x m hs hd
   have h2 := g3 10000 (by omega) (by omega)
   have h3 : lowF h d n cols K ((10000 : Nat) : Int) = none := by
    cases hq : lowF h d n cols K ((10000 : Nat) : Int) with
    | none => rfl
    | some q => rw [hq] at h2; cases h2
   have h4 := lowF_none ok (by omega) (by omega) h3 hs hd
   unfold factorN mnI
   split <;> omega
  exact ⟨a1, a2, low k l a1 a2, fun x m hs hd => by rw [low x m hs hd]; exact Int.le_refl _⟩
theorem worst_none (ok : HdOk h d n cols K) (hw : worstR h d n cols K = none) : ∀ x m, SurfB n cols K x m -> ¬ (1 <= sumH d x m) := by
 obtain ⟨g1, g2, g3, g4⟩ := firstN_is (p := fun f => (lowF h d n cols K f).isSome) 10000 1
 intro x m hs hd
 unfold worstR at hw
 unfold worstL at hw
 obtain ⟨L, hL⟩ : ∃ L, L = firstN (fun f => (lowF h d n cols K f).isSome) 1 10000 := ⟨_, rfl⟩
 rw [<- hL] at hw g1 g2 g3 g4
 by_cases hle : L <= 10000
 ·rw [if_pos hle, Option.map_eq_none_iff] at hw
  have := g4 (by omega)
  rw [hw] at this
  cases this
 ·rw [if_neg hle, Option.map_eq_none_iff] at hw
  have h0 : ∀ (l : List Nat) (k : Nat), sumH (fun _ _ => (0 : Int)) k l = 0 := by
   intro l
   induction l with
   | nil => intro k; rfl
   | cons b t ih => intro k; simp only [sumH]; have := ih (k + 1); omega
  have h4 := lowF_none (zero_ok ok) (by omega) (by omega) hw hs hd
  rw [h0] at h4
  simp at h4
end
section
variable {h d h' d' : Nat -> Nat -> Int} {n cols K n' cols' K' : Nat} {f g : Int}
theorem factor_le {H D H' D' : Int} (h0 : 0 <= H') (h1 : H' <= H) (hd : 1 <= D) (h2 : D <= D') : factorN H' D' <= factorN H D := by
 have e1 : 1000 * H' / D' <= 1000 * H / D := by
  rw [Int.le_ediv_iff_mul_le (by omega)]
  have a1 := Int.ediv_mul_le (1000 * H') (b := D') (by omega)
  have a2 : 1000 * H' / D' * D <= 1000 * H' / D' * D' := Int.mul_le_mul_of_nonneg_left h2 (Int.ediv_nonneg (by omega) (by omega))
  omega
 unfold factorN mnI
 split <;> split <;> omega
end
section
variable {c : Nat -> Nat -> Int} {n cols K : Nat} {big B far : Int} {t : Nat -> Nat -> Nat -> Int}
theorem way_snoc : ∀ (l : List Nat) (x : Nat), x < n -> wayB n l -> (∀ y, l.getLast? = some y -> y <= x + 1 /\ x <= y + 1) -> wayB n (l ++ [x])
 | [], x, hx, _, _ => ⟨hx, fun y hy => by simp at hy, trivial⟩
 | [b], x, hx, hw, hl => by
  have := hl b rfl
  exact ⟨hw.1, fun y hy => by simp at hy; omega, hx, fun y hy => by simp at hy, trivial⟩
 | b :: b' :: l, x, hx, hw, hl => by
  refine ⟨hw.1, fun y hy => hw.2.1 y (by simpa using hy), ?_⟩
  exact way_snoc (b' :: l) x hx hw.2.2 fun y hy => hl y (by rw [List.getLast?_cons_cons]; exact hy)
end
end

section
open Go.RowKit
structure Rg where
 lo : Int
 hi : Int
structure Bd where
 drive : Int
 normal : Int
 fr : Rg
 co : Rg
 wa : Rg
structure Rl where
 fr : Int
 co : Int
 wa : Int
structure Cl where
 beds : List Bd
 a : Option Addr
 cp : Nat
structure Sd where
 cols : List (List Bd)
 least : Int
structure Sm where
 cs : List Cl
 a : Option Addr
 c : Nat
 least : Int
def Sm.sd (s : Sm) : Sd := ⟨s.cs.map (·.beds), s.least⟩
abbrev rgL (r : Rg) : List Value := [vi r.lo, vi r.hi]
abbrev rgV (r : Rg) : Value := .agg #[vi r.lo, vi r.hi]
abbrev bdL (b : Bd) : List Value := [vi b.drive, vi b.normal, vi b.fr.lo, vi b.fr.hi, vi b.co.lo, vi b.co.hi, vi b.wa.lo, vi b.wa.hi]
abbrev bdC (b : Bd) : Array Value := #[vi b.drive, vi b.normal, vi b.fr.lo, vi b.fr.hi, vi b.co.lo, vi b.co.hi, vi b.wa.lo, vi b.wa.hi]
abbrev bdV (b : Bd) : Value := .agg (bdC b)
abbrev rlL (x : Rl) : List Value := [vi x.fr, vi x.co, vi x.wa]
abbrev rlC (x : Rl) : Array Value := #[vi x.fr, vi x.co, vi x.wa]
abbrev rlV (x : Rl) : Value := .agg (rlC x)
abbrev clL (x : Cl) : List Value := [.slice x.a x.beds.length x.cp]
abbrev clV (x : Cl) : Value := .slice x.a x.beds.length x.cp
abbrev smC (s : Sm) : Array Value := #[.slice s.a s.cs.length s.c, vi s.least]
abbrev smV (s : Sm) : Value := .agg (smC s)
structure SmOk (s : Sm) (W : World) : Prop where
 cs : Row clL 1 W W.heap.size s.a s.cs
 bd : ∀ x ∈ s.cs, Row bdL 8 W W.heap.size x.a x.beds
theorem SmOk.next {s : Sm} {W W' : World} (h : SmOk s W) (hb : newer W W') : SmOk s W' :=
 ⟨(h.cs.below hb).more hb.size, fun x hx => ((h.bd x hx).below hb).more hb.size⟩
theorem row8 {w : World} {B : Nat} {A : Option Addr} {l : List Bd} (h : Row bdL 8 w B A l) {k : Nat} {c : Bd} (hk : l[k]? = some c) :
  ∃ b off, A = some ⟨b, off, none⟩ /\ b < B /\ w.cell? ⟨b, off + k * 8, none⟩ = some (.int .i64 c.drive) /\ w.cell? ⟨b, off + k * 8 + 1, none⟩ = some (.int .i64 c.normal) /\ w.cell? ⟨b, off + k * 8 + 2, none⟩ = some (.int .i64 c.fr.lo) /\ w.cell? ⟨b, off + k * 8 + 3, none⟩ = some (.int .i64 c.fr.hi) /\
   w.cell? ⟨b, off + k * 8 + 4, none⟩ = some (.int .i64 c.co.lo) /\ w.cell? ⟨b, off + k * 8 + 5, none⟩ = some (.int .i64 c.co.hi) /\ w.cell? ⟨b, off + k * 8 + 6, none⟩ = some (.int .i64 c.wa.lo) /\ w.cell? ⟨b, off + k * 8 + 7, none⟩ = some (.int .i64 c.wa.hi) := by
 obtain ⟨b, off, e, hb, hc⟩ := h (ne_nil_of_get hk)
 exact ⟨b, off, e, hb, hc k c hk 0 _ rfl, hc k c hk 1 _ rfl, hc k c hk 2 _ rfl, hc k c hk 3 _ rfl, hc k c hk 4 _ rfl, hc k c hk 5 _ rfl, hc k c hk 6 _ rfl, hc k c hk 7 _ rfl⟩
theorem row3 {w : World} {B : Nat} {A : Option Addr} {l : List Rl} (h : Row rlL 3 w B A l) {k : Nat} {c : Rl} (hk : l[k]? = some c) :
  ∃ b off, A = some ⟨b, off, none⟩ /\ b < B /\ w.cell? ⟨b, off + k * 3, none⟩ = some (.int .i64 c.fr) /\ w.cell? ⟨b, off + k * 3 + 1, none⟩ = some (.int .i64 c.co) /\ w.cell? ⟨b, off + k * 3 + 2, none⟩ = some (.int .i64 c.wa) := by
 obtain ⟨b, off, e, hb, hc⟩ := h (ne_nil_of_get hk)
 exact ⟨b, off, e, hb, hc k c hk 0 _ rfl, hc k c hk 1 _ rfl, hc k c hk 2 _ rfl⟩
theorem rowC {w : World} {B : Nat} {A : Option Addr} {l : List Cl} (h : Row clL 1 w B A l) {k : Nat} {c : Cl} (hk : l[k]? = some c) :
  ∃ b off, A = some ⟨b, off, none⟩ /\ b < B /\ w.cell? ⟨b, off + k, none⟩ = some (.slice c.a c.beds.length c.cp) := by
 obtain ⟨b, off, e, hb, hc⟩ := h (ne_nil_of_get hk)
 exact ⟨b, off, e, hb, by simpa using hc k c hk 0 _ rfl⟩
def rgU (r : Rg) (most : Int) : Bool := decide (0 <= r.lo) && decide (r.lo <= r.hi) && decide (r.hi <= most)
def bdB (b : Bd) : Bool := inB b.drive (-100000) 100000 && inB b.normal 0 100000 && rgU b.fr 2000 && rgU b.co 100000 && rgU b.wa 100000
def Sd.n (s : Sd) : Nat := (s.cols.headD []).length
def Sd.K (s : Sd) : Nat := s.least.toNat
def slopeB (s : Sd) : Bool := inB s.cols.length 1 12 && inB s.n 1 5 && inB s.least 1 4 && s.cols.all fun l => decide (l.length = s.n) && l.all bdB
def holdsN (b : Bd) (x : Rl) : Int := mxI 0 (b.normal - x.wa) * x.fr / 1000 + x.co
def endR (hi : Bool) (b : Bd) : Rl := if hi then ⟨b.fr.hi, b.co.hi, b.wa.lo⟩ else ⟨b.fr.lo, b.co.lo, b.wa.hi⟩
def bedAt (cols : List (List Bd)) (k b : Nat) : Option Bd := match cols[k]? with
 | some l => l[b]?
 | none => none
def hAt (hi : Bool) (s : Sd) (k b : Nat) : Int := match bedAt s.cols k b with
 | some x => holdsN x (endR hi x)
 | none => 0
def dAt (s : Sd) (k b : Nat) : Int := match bedAt s.cols k b with
 | some x => x.drive
 | none => 0
structure SdOk (s : Sd) : Prop where
 cols : 1 <= s.cols.length /\ s.cols.length <= 12
 beds : 1 <= s.n /\ s.n <= 5
 least : 1 <= s.least /\ s.least <= 4
 len : ∀ l ∈ s.cols, l.length = s.n
 bd : ∀ l ∈ s.cols, ∀ b ∈ l, bdB b = true
theorem sdOk_iff {s : Sd} : slopeB s = true ↔ SdOk s := by
 unfold slopeB
 simp only [inB, Bool.and_eq_true, decide_eq_true_eq, List.all_eq_true]
 constructor
 ·rintro ⟨⟨⟨h1, h2⟩, h3⟩, h4⟩
  exact ⟨by omega, by omega, h3, fun l hl => (h4 l hl).1, fun l hl b hb => (h4 l hl).2 b hb⟩
 ·rintro ⟨h1, h2, h3, h4, h5⟩
  exact ⟨⟨⟨by omega, by omega⟩, h3⟩, fun l hl => ⟨h4 l hl, fun b hb => h5 l hl b hb⟩⟩
theorem bdB_parts {b : Bd} (h : bdB b = true) : (-100000 <= b.drive /\ b.drive <= 100000) /\ (0 <= b.normal /\ b.normal <= 100000) /\ (0 <= b.fr.lo /\ b.fr.lo <= b.fr.hi /\ b.fr.hi <= 2000) /\ (0 <= b.co.lo /\ b.co.lo <= b.co.hi /\ b.co.hi <= 100000) /\ (0 <= b.wa.lo /\ b.wa.lo <= b.wa.hi /\ b.wa.hi <= 100000) := by
 simp only [bdB, rgU, inB, Bool.and_eq_true, decide_eq_true_eq] at h
 omega
theorem holds_bd {b : Bd} {x : Rl} (hn : 0 <= b.normal /\ b.normal <= 100000) (h1 : 0 <= x.fr /\ x.fr <= 2000) (h2 : 0 <= x.co /\ x.co <= 100000) (h3 : 0 <= x.wa) : 0 <= mxI 0 (b.normal - x.wa) * x.fr /\ mxI 0 (b.normal - x.wa) * x.fr <= 200000000 /\ 0 <= holdsN b x /\ holdsN b x <= 300000 := by
 have hm : 0 <= mxI 0 (b.normal - x.wa) /\ mxI 0 (b.normal - x.wa) <= 100000 := by unfold mxI; split <;> omega
 have h4 := mul_bd hm.1 hm.2 h1.1 h1.2
 unfold holdsN
 omega
theorem end_bd {b : Bd} (h : bdB b = true) (hi : Bool) : 0 <= holdsN b (endR hi b) /\ holdsN b (endR hi b) <= 300000 := by
 obtain ⟨_, h2, h3, h4, h5⟩ := bdB_parts h
 have := holds_bd (b := b) (x := endR hi b) h2 (by cases hi <;> simp [endR] <;> omega) (by cases hi <;> simp [endR] <;> omega) (by cases hi <;> simp [endR] <;> omega)
 exact this.2.2
theorem bedAt_mem {cols : List (List Bd)} {k b : Nat} {x : Bd} (h : bedAt cols k b = some x) : ∃ l ∈ cols, cols[k]? = some l /\ l[b]? = some x /\ x ∈ l := by
 unfold bedAt at h
 split at h
 ·rename_i l hl
  exact ⟨l, List.mem_of_getElem? hl, hl, h, List.mem_of_getElem? h⟩
 ·cases h
theorem hd_ok {s : Sd} (h : SdOk s) (hi : Bool) : HdOk (hAt hi s) (dAt s) s.n s.cols.length s.K where
 h0 k b := by
  unfold hAt
  split
  ·rename_i x hx
   obtain ⟨l, hl, _, _, hb⟩ := bedAt_mem hx
   exact (end_bd (h.bd l hl x hb) hi).1
  ·exact Int.le_refl _
 h1 k b := by
  unfold hAt
  split
  ·rename_i x hx
   obtain ⟨l, hl, _, _, hb⟩ := bedAt_mem hx
   exact (end_bd (h.bd l hl x hb) hi).2
  ·omega
 d0 k b := by
  unfold dAt
  split
  ·rename_i x hx
   obtain ⟨l, hl, _, _, hb⟩ := bedAt_mem hx
   exact (bdB_parts (h.bd l hl x hb)).1.1
  ·omega
 d1 k b := by
  unfold dAt
  split
  ·rename_i x hx
   obtain ⟨l, hl, _, _, hb⟩ := bedAt_mem hx
   exact (bdB_parts (h.bd l hl x hb)).1.2
  ·omega
 n0 := h.beds.1
 K0 := by have := h.least; unfold Sd.K; omega
 few := by have := h.least; have := h.cols; unfold Sd.K; omega
def fitB (b : Bd) (x : Rl) : Bool := inB x.fr b.fr.lo b.fr.hi && inB x.co b.co.lo b.co.hi && inB x.wa b.wa.lo b.wa.hi
theorem div_mono {a b : Int} (h : a <= b) : a / 1000 <= b / 1000 := by omega
theorem holds_mono {b : Bd} {x y : Rl} (h0 : 0 <= x.fr) (h1 : x.fr <= y.fr) (h2 : x.co <= y.co) (h3 : y.wa <= x.wa) : holdsN b x <= holdsN b y := by
 have hm : 0 <= mxI 0 (b.normal - x.wa) /\ mxI 0 (b.normal - x.wa) <= mxI 0 (b.normal - y.wa) := by unfold mxI; split <;> split <;> omega
 have e1 : mxI 0 (b.normal - x.wa) * x.fr <= mxI 0 (b.normal - y.wa) * y.fr := Int.le_trans (Int.mul_le_mul_of_nonneg_right hm.2 h0) (Int.mul_le_mul_of_nonneg_left h1 (by omega))
 have := div_mono e1
 unfold holdsN
 omega
theorem fit_mono {b : Bd} {x : Rl} (hb : bdB b = true) (hx : fitB b x = true) : holdsN b (endR false b) <= holdsN b x /\ holdsN b x <= holdsN b (endR true b) := by
 obtain ⟨_, _, h3, h4, h5⟩ := bdB_parts hb
 simp only [fitB, inB, Bool.and_eq_true, decide_eq_true_eq] at hx
 exact ⟨holds_mono (by simp [endR]; omega) (by simp [endR]; omega) (by simp [endR]; omega) (by simp [endR]; omega), holds_mono (by omega) (by simp [endR]; omega) (by simp [endR]; omega) (by simp [endR]; omega)⟩
theorem fit_end {b : Bd} (hb : bdB b = true) (hi : Bool) : fitB b (endR hi b) = true := by
 obtain ⟨_, _, h3, h4, h5⟩ := bdB_parts hb
 cases hi <;> simp [fitB, inB, endR] <;> omega
end

end Go.Proofs.Ytcdhhfgpdokkoaa
