/- The reference of the water layer: a ground with another pump; is a level kept? -/
import Derived.Test.YteonkhohloabfaaAF
namespace Go.Proofs.Yteonkhohloabfaa
open Go.RowKit

/-- The boxes of With. -/
structure WiA (w : World) (gcs cs : Array Value) (W : World) : Prop where
  b0 : Whole W w.heap.size 26 gcs
  b1 : Whole W (w.heap.size + 1) 26 #[.slice none 0 0, vi 0, vi 0, vi 0, vi 0, vi 0]
  b2 : Whole W (w.heap.size + 1 + 1) 26 cs
  below : Below w.heap.size w W
section
variable {w : World} {gcs cs : Array Value} {W W' : World}
theorem WiA.newer (h : WiA w gcs cs W) (hb : newer W W') : WiA w gcs cs W' := ⟨h.b0.below hb h.b0.lt, h.b1.below hb h.b1.lt, h.b2.below hb h.b2.lt, below_next h.below hb⟩
theorem WiA.grown (h : WiA w gcs cs W) {v : Value} {n : Nat} {xs : List Value} (ho : W.ownsRow w.heap.size 74 7 v n xs) (hg : W.grownBy W' v.ownBlock) : WiA w gcs cs W' :=
  ⟨h.b0.grown hg (own_ne ho h.b0 (by decide)).symm, h.b1.grown hg (own_ne ho h.b1 (by decide)).symm, h.b2.grown hg (own_ne ho h.b2 (by decide)).symm, h.below.grown hg h.below.size (own_ge ho)⟩
theorem WiA.set (h : WiA w gcs cs W) (u : Value) : WiA w gcs (cs.setIfInBounds 0 u) (W.setCell ⟨w.heap.size + 1 + 1, 0, none⟩ u) :=
  ⟨h.b0.far (by dsimp only; omega) _, h.b1.far (by dsimp only; omega) _, h.b2.set 0 u, h.below.setCell (p := ⟨w.heap.size + 1 + 1, 0, none⟩) (by dsimp only; omega) _⟩
end
theorem Try.info74 : (Try.prog.info? 74).map (fun i => (i.zero, i.size, i.bytes)) = some (some (.agg #[.int .i64 0, .int .i64 0, .int .i64 0, .int .i64 0, .int .i64 0, .int .i64 0, .int .i64 0]), 7, 56) := by kernel_rfl

/-- A ground in a row of its own. -/
def vGnO (g : Gnd) (v : Value) (W : World) : Prop := ∃ base A c, v = gndV A c g ∧ W.ownsRow base 74 7 (.slice A g.cells.length c) g.cells.length (g.cells.flatMap cellL)
theorem vGnO_st {g : Gnd} : ∀ v W W', vGnO g v W → newer W W' → vGnO g v W' := fun _ _ _ ⟨base, A, c, h1, h2⟩ hb => ⟨base, A, c, h1, own_below h2 hb⟩
def groundOwn (w : World) (g : Gnd) (e : Ending) (w' : World) : Prop := (∃ v, e = .returned v ∧ vGnO g v w') ∧ Below w.heap.size w w'
set_option maxRecDepth 100000 in
set_option maxHeartbeats 1000000 in
theorem refWith_own (g : Gnd) (A : Option Addr) (ap : Nat) (cell : Nat) (pump : Int) (w : World) (hn : g.cells.length ≤ 1000) (hcl : cell < g.cells.length) (hc : Row cellL 7 w w.heap.size A g.cells) :
    Calls Try.prog 40 #[gndV A ap g, .int .i64 cell, .int .i64 pump] w (groundOwn w (withPump g cell pump)) := by
  have HC := Lib.hid hc
  obtain ⟨b0, off0, eA, _, _⟩ := hc (by intro e; rw [e] at hcl; simp at hcl)
  subst eA
  clear hc
  obtain ⟨i74, hi0, hz0, hz1, hz2⟩ := info_parts Try.info74
  have HI := Lib.hid (And.intro hi0 (And.intro hz0 (And.intro hz1 hz2)))
  clear hi0 hz0 hz1 hz2
  go_enter Try.func40, Try.ntmps40
  go_upto_region 2 with fail
  have ha : WiA w (gndC (some ⟨b0, off0, none⟩) ap g) (gndC (some ⟨b0, off0, none⟩) ap g) (((w.alloc (.cells (gndC (some ⟨b0, off0, none⟩) ap g) 26)).alloc (.cells #[.slice none 0 0, vi 0, vi 0, vi 0, vi 0, vi 0] 26)).alloc (.cells (gndC (some ⟨b0, off0, none⟩) ap g) 26)) := by
    refine ⟨?_, ?_, ?_, (((Below.refl _ _).alloc (Nat.le_refl _) _).alloc (by simp) _).alloc (by simp; omega) _⟩
    · (simp only [Whole, heap_if, World.size_alloc]; (repeat rw [if_neg (by omega)]); rfl)
    · (simp only [Whole, heap_if, World.size_alloc]; (repeat rw [if_neg (by omega)]); rfl)
    · (simp only [Whole, heap_if, World.size_alloc]; (repeat rw [if_neg (by omega)]); rfl)
  refine gen_world (WiA w (gndC (some ⟨b0, off0, none⟩) ap g) (gndC (some ⟨b0, off0, none⟩) ap g)) ha ?_
  clear ha
  intro wv ha
  have x0 := ha.b0.at 0 (v := .slice (some ⟨b0, off0, none⟩) g.cells.length ap) rfl
  have hz := ha.b2.lt
  have hz0 : w.heap.size < wv.heap.size := by omega
  have HA := Lib.hid (ha.newer ((Below.refl _ _).alloc (Nat.le_refl _) (.cells #[] 74)))
  have HO : Hid ((wv.alloc (.cells #[] 74)).ownsRow w.heap.size 74 7 (.slice (some ⟨wv.heap.size, 0, none⟩) 0 0) 0 []) :=
    ⟨by simp, .inr ⟨wv.heap.size, 0, #[], rfl, by omega, by (simp only [heap_if]; rfl), by omega, by unfold maxLen; omega, rfl, rfl⟩⟩
  have HNW := Lib.hid (row_news (enc := cellL) (s := 7) (by omega) (fun _ => rfl) (row_alloc ((HC.out.below ha.below).more ha.below.size) (.cells #[] 74)))
  clear ha
  obtain ⟨hi0, hz1, hz2, hz3⟩ := HI.out
  have hci : (cell : Int) < g.cells.length := by omega
  go_upto_region 3 with (at_builtin; go_loud ((refine wpList_append_lies _ rfl (.tmp 9) (.tmp 11) 22 rfl w.heap.size 74 i74 (.agg #[.int .i64 0, .int .i64 0, .int .i64 0, .int .i64 0, .int .i64 0, .int .i64 0, .int .i64 0]) 7 56 Try.underlying22 hi0 hz1 hz2 hz3 rfl (by omega) _ 0 [] rfl HO.out ⟨b0, off0, none⟩ g.cells.length ap (g.cells.flatMap cellL) rfl (flat_len (enc := cellL) (s := 7) (fun _ => rfl) g.cells) HNW.out (flat_one _) (by omega) (by unfold maxLen; omega) (by omega) (by simp; omega) (wv.heap.size + 1) (by simp) ?_); intro gg cp w2 hown2 hgrow2 hat2 hlt2; simp only [Nat.zero_add, List.nil_append] at hown2 ⊢; have ha2 := (HA.out).grown HO.out hgrow2; have y0 := ha2.b2.at 0 (v := .slice (some ⟨b0, off0, none⟩) g.cells.length ap) rfl; have yf := ha2.b2.free 0; have HO2 := Lib.hid hown2; have HA2 := Lib.hid ha2; clear ha2 hown2 hgrow2 hat2 hlt2 hi0 hz1 hz2 hz3 HI HNW HO))
  refine gen_world (fun W => WiA w (gndC (some ⟨b0, off0, none⟩) ap g) #[.slice (some ⟨gg, 0, none⟩) g.cells.length cp, vi g.slo, vi g.shi, vi g.klo, vi g.khi, vi g.melt] W ∧ W.ownsRow w.heap.size 74 7 (.slice (some ⟨gg, 0, none⟩) g.cells.length cp) g.cells.length (g.cells.flatMap cellL)) ⟨(HA2.out).set _, own_set HO2.out (own_ne HO2.out (HA2.out).b2 (by decide)) _⟩ ?_
  rintro w3 ⟨ha, ho⟩
  clear HA2 HO2 y0 yf
  have hst := ho.stored (cell * 7 + 6) (vi pump)
  have hcur := ho.cellAt (cell * 7 + 6) (by omega)
  have hfr := ho.frozenAt (cell * 7 + 6)
  obtain ⟨u, hu⟩ := get_of_lt (l := g.cells.flatMap cellL) (k := cell * 7 + 6) (by rw [ho.1]; omega)
  rw [hu] at hcur
  rw [flat7_set _ _ _ hcl] at hst
  have x0 := ha.b2.at 0 (v := .slice (some ⟨gg, 0, none⟩) g.cells.length cp) rfl
  have ha4 : WiA w (gndC (some ⟨b0, off0, none⟩) ap g) #[.slice (some ⟨gg, 0, none⟩) g.cells.length cp, vi g.slo, vi g.shi, vi g.klo, vi g.khi, vi g.melt] (w3.setCell ⟨gg, cell * 7 + 6, none⟩ (vi pump)) := ha.grown ho hst.2
  have H4 : Hid (WiA w (gndC (some ⟨b0, off0, none⟩) ap g) #[.slice (some ⟨gg, 0, none⟩) g.cells.length cp, vi g.slo, vi g.shi, vi g.klo, vi g.khi, vi g.melt] (w3.setCell ⟨gg, cell * 7 + 6, none⟩ (vi pump)) ∧ (w3.setCell ⟨gg, cell * 7 + 6, none⟩ (vi pump)).ownsRow w.heap.size 74 7 (.slice (some ⟨gg, 0, none⟩) g.cells.length cp) g.cells.length ((withPump g cell pump).cells.flatMap cellL)) := ⟨ha4, hst.1⟩
  clear hst ha ho ha4 hu
  go_upto_region 4 with fail
  refine gen_world (fun W => WiA w (gndC (some ⟨b0, off0, none⟩) ap g) #[.slice (some ⟨gg, 0, none⟩) g.cells.length cp, vi g.slo, vi g.shi, vi g.klo, vi g.khi, vi g.melt] W ∧ W.ownsRow w.heap.size 74 7 (.slice (some ⟨gg, 0, none⟩) g.cells.length cp) g.cells.length ((withPump g cell pump).cells.flatMap cellL)) H4.out ?_
  rintro w4 ⟨hm, ho⟩
  clear H4 x0 hcur hfr
  have c0 := hm.b2.at 0 rfl
  have c1 := hm.b2.at 1 rfl
  have c2 := hm.b2.at 2 rfl
  have c3 := hm.b2.at 3 rfl
  have c4 := hm.b2.at 4 rfl
  have c5 := hm.b2.at 5 rfl
  have r0 := hm.b1.at 0 rfl
  have r1 := hm.b1.at 1 rfl
  have r2 := hm.b1.at 2 rfl
  have r3 := hm.b1.at 3 rfl
  have r4 := hm.b1.at 4 rfl
  have r5 := hm.b1.at 5 rfl
  have f0 := hm.b1.free 0
  have f1 := hm.b1.free 1
  have f2 := hm.b1.free 2
  have f3 := hm.b1.free 3
  have f4 := hm.b1.free 4
  have f5 := hm.b1.free 5
  have HM := Lib.hid hm
  have HO := Lib.hid ho
  clear hm ho
  go_wp2_with fail
  have hm := HM.out
  have c := (((((hm.b1.set 0 (.slice (some ⟨gg, 0, none⟩) g.cells.length cp)).set 1 (vi g.slo)).set 2 (vi g.shi)).set 3 (vi g.klo)).set 4 (vi g.khi)).set 5 (vi g.melt)
  have k0 := c.at 0 rfl
  have k1 := c.at 1 rfl
  have k2 := c.at 2 rfl
  have k3 := c.at 3 rfl
  have k4 := c.at 4 rfl
  have k5 := c.at 5 rfl
  have ne := own_ne HO.out hm.b1 (by decide)
  have s : ∀ {X : World} {u : Value} {i : Nat}, Below w.heap.size w X → Below w.heap.size w (X.setCell ⟨w.heap.size + 1, i, none⟩ u) := fun h => h.setCell (p := ⟨w.heap.size + 1, _, none⟩) (by dsimp only; omega) _
  have q : ∀ {X : World} {u : Value} {i : Nat}, X.ownsRow w.heap.size 74 7 (.slice (some ⟨gg, 0, none⟩) g.cells.length cp) g.cells.length ((withPump g cell pump).cells.flatMap cellL) → (X.setCell ⟨w.heap.size + 1, i, none⟩ u).ownsRow w.heap.size 74 7 (.slice (some ⟨gg, 0, none⟩) g.cells.length cp) g.cells.length ((withPump g cell pump).cells.flatMap cellL) := fun h => own_set h ne _
  have hgv : gndV (some ⟨gg, 0, none⟩) cp (withPump g cell pump) = .agg #[.slice (some ⟨gg, 0, none⟩) g.cells.length cp, vi g.slo, vi g.shi, vi g.klo, vi g.khi, vi g.melt] := by
    unfold gndV
    rw [withPump_len]
    rfl
  exact bodyPost_ret (v := .agg #[.slice (some ⟨gg, 0, none⟩) g.cells.length cp, vi g.slo, vi g.shi, vi g.klo, vi g.khi, vi g.melt]) (by simp [results, Try.results40, go_sem, k0, k1, k2, k3, k4, k5]) rfl ⟨⟨_, by rw [hgv], w.heap.size, some ⟨gg, 0, none⟩, cp, rfl, by rw [withPump_len]; exact q (q (q (q (q (q HO.out)))))⟩, s (s (s (s (s (s hm.below)))))⟩
theorem refWith (g : Gnd) (A : Option Addr) (ap : Nat) (cell : Nat) (pump : Int) (w : World) (hn : g.cells.length ≤ 1000) (hcl : cell < g.cells.length) (hc : Row cellL 7 w w.heap.size A g.cells) :
    Calls Try.prog 40 #[gndV A ap g, .int .i64 cell, .int .i64 pump] w (groundOut w (withPump g cell pump)) :=
  (refWith_own g A ap cell pump w hn hcl hc).mono fun _ _ ⟨⟨_, h1, _, A, c, h2, h3⟩, h4⟩ => ⟨A, c, by rw [h1, h2], row_of_own (by omega) (fun _ => rfl) h3, h4⟩
end Go.Proofs.Yteonkhohloabfaa
