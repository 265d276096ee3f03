/- What the last text of this chain needs: AF, AI, AW2, BH, BF, BK. -/
import Derived.Test.YtcdhhfgpdokkoaaGreatZH04
namespace Go.Proofs.YtcdhhfgpdokkoaaGreat
section
open Go.RowKit Go.Shelf Go.Deep
def zeroX : Array Value := #[vi 0, vi 0, vi 0, vi 0, vi 0, vi 0, vi 0, vi 0]
theorem put8 {W : World} {g : Nat} {t : TypeId} (h : Whole W g t zeroX) (bd : Bd) : Whole ((((((((W.setCell ⟨g, 0, none⟩ (vi bd.drive)).setCell ⟨g, 1, none⟩ (vi bd.normal)).setCell ⟨g, 2, none⟩ (vi bd.fr.lo)).setCell ⟨g, 3, none⟩ (vi bd.fr.hi)).setCell ⟨g, 4, none⟩ (vi bd.co.lo)).setCell ⟨g, 5, none⟩ (vi bd.co.hi)).setCell ⟨g, 6, none⟩ (vi bd.wa.lo)).setCell ⟨g, 7, none⟩ (vi bd.wa.hi)) g t (bdC bd) := by
 have h8 := ((((((((h.set 0 (vi bd.drive)).set 1 (vi bd.normal)).set 2 (vi bd.fr.lo)).set 3 (vi bd.fr.hi)).set 4 (vi bd.co.lo)).set 5 (vi bd.co.hi)).set 6 (vi bd.wa.lo)).set 7 (vi bd.wa.hi))
 simpa only [zeroX, List.setIfInBounds_toArray, List.set_cons_zero, List.set_cons_succ] using h8
theorem put8_grown (W : World) (g : Nat) (bd : Bd) : W.grownBy ((((((((W.setCell ⟨g, 0, none⟩ (vi bd.drive)).setCell ⟨g, 1, none⟩ (vi bd.normal)).setCell ⟨g, 2, none⟩ (vi bd.fr.lo)).setCell ⟨g, 3, none⟩ (vi bd.fr.hi)).setCell ⟨g, 4, none⟩ (vi bd.co.lo)).setCell ⟨g, 5, none⟩ (vi bd.co.hi)).setCell ⟨g, 6, none⟩ (vi bd.wa.lo)).setCell ⟨g, 7, none⟩ (vi bd.wa.hi)) (some g) := grown_set (p := ⟨g, 7, none⟩) (grown_set (p := ⟨g, 6, none⟩) (grown_set (p := ⟨g, 5, none⟩) (grown_set (p := ⟨g, 4, none⟩) (grown_set (p := ⟨g, 3, none⟩) (grown_set (p := ⟨g, 2, none⟩) (grown_set (p := ⟨g, 1, none⟩) (grown_set (p := ⟨g, 0, none⟩) (grown_refl W _) (.inl rfl) _) (.inl rfl) _) (.inl rfl) _) (.inl rfl) _) (.inl rfl) _) (.inl rfl) _) (.inl rfl) _) (.inl rfl) _
end

section
open Go.ChangeShapes Go.WideShapes Go.ChangeAt Go.RowKit Go.Deep
theorem Tryz.own : ownKnob Tryz.prog.godebug = none := by kernel_rfl
theorem Tryz.laidOut : laidOutB Tryz.prog = true := by kernel_rfl
theorem Tryz.cells3 : Tryz.prog.cellsOf 3 = 1 := by kernel_rfl
theorem Tryz.cells22 : Tryz.prog.cellsOf 22 = 1 := by kernel_rfl
theorem Tryz.cells24 : Tryz.prog.cellsOf 24 = 2 := by kernel_rfl
theorem Tryz.cells38 : Tryz.prog.cellsOf 38 = 2 := by kernel_rfl
theorem Tryz.cells41 : Tryz.prog.cellsOf 41 = 1 := by kernel_rfl
theorem Tryz.cells40 : Tryz.prog.cellsOf 40 = 8 := by kernel_rfl
theorem len8 {α : Type} {l : List α} (h : l.length = 8) : ∃ a b c d e f g i, l = [a, b, c, d, e, f, g, i] := by
 match l, h with
 | [a, b, c, d, e, f, g, i], _ => exact ⟨a, b, c, d, e, f, g, i, rfl⟩
theorem len5 {α : Type} {l : List α} (h : l.length = 5) : ∃ a b c d e, l = [a, b, c, d, e] := by
 match l, h with
 | [a, b, c, d, e], _ => exact ⟨a, b, c, d, e, rfl⟩
section
variable {H : Type} {enc : TypeId × Value -> H} {w : World} {base : Nat} {spare : Nat -> Bool} {held : Bool} {fuel : Nat} {cs : List Value} {x : DataW H × List MemPlace}
theorem open_rowP {α : Type} {ec : α -> List Value} {Pr : α -> Prop} {t e s : Nat} (ht : Tryz.prog.underlying t = some (.slice e)) (hC : Tryz.prog.cellsOf e = s) (he : ∀ y, (ec y).length = s) (hs : 0 < s)
  (hel : ∀ {fuel : Nat} {cs : List Value} {x : DataW H × List MemPlace}, DataW.trod enc Tryz.prog w base spare held fuel e cs = some x -> ∃ y, cs = ec y /\ Pr y)
  (h : DataW.trod enc Tryz.prog w base spare held fuel t cs = some x) : ∃ (A : Option Addr) (l : List α) (cp : Nat), cs = [.slice A l.length cp] /\ l.length <= maxLen /\ Row ec s w w.heap.size A l /\ ∀ y ∈ l, Pr y := by
 rcases open_slice ht h with ⟨rfl, _⟩ | ⟨a, len, cap, m, n, D, Pl, rfl, hb, hl, hm, hmm, _, hi⟩
 ·exact ⟨none, [], 0, rfl, Nat.zero_le _, Row.nil _, fun y hy => by simp at hy⟩
 ·have hlm : len <= m := by rw [hmm]; split <;> omega
  obtain ⟨b, off, sp⟩ := a
  rcases Nat.eq_zero_or_pos len with rfl | hpos
  ·exact ⟨_, [], cap, rfl, Nat.zero_le _, Row.nil _, fun y hy => by simp at hy⟩
  ·have hex : ∀ i, ∃ y : α, Pr y /\ (i < len -> w.cells? base ((⟨b, off, sp⟩ : Addr).add (i * s)) s = some (ec y)) := by
    intro i
    by_cases hi2 : i < len
    ·obtain ⟨cs', hc, ht'⟩ := hi i (by omega)
     obtain ⟨y, rfl, hpy⟩ := hel ht'
     rw [hC] at hc
     exact ⟨y, hpy, fun _ => hc⟩
    ·obtain ⟨cs', hc, ht'⟩ := hi 0 (by omega)
     obtain ⟨y, rfl, hpy⟩ := hel ht'
     exact ⟨y, hpy, fun h => absurd h hi2⟩
   obtain ⟨f, hff⟩ := Classical.axiomOfChoice hex
   have hf := fun i => (hff i).2
   have hcell : ∀ i, i < len -> ∀ j v, (ec (f i))[j]? = some v -> w.cell? (((⟨b, off, sp⟩ : Addr).add (i * s)).add j) = some v := by
    intro i hi2 j v hv
    obtain ⟨_, _, h3⟩ := World.cells?_some (hf i hi2)
    have hj : j < s := by rw [<- he (f i)]; exact (List.getElem?_eq_some_iff.1 hv).1
    rw [h3 j hj, hv]
   have hsp : sp = none := by
    obtain ⟨u, hv⟩ := get_of_lt (l := ec (f 0)) (k := 0) (by rw [he]; exact hs)
    have := hcell 0 hpos 0 _ hv
    simp only [Nat.zero_mul, Addr.add, if_true] at this
    unfold World.cell? at this
    cases sp with
    | none => rfl
    | some q =>
     exfalso
     dsimp only at this
     split at this
     ·simp at this
     ·cases this
   subst hsp
   refine ⟨_, (List.range len).map f, cap, by rw [List.length_map, List.length_range], by rw [List.length_map, List.length_range]; exact Nat.le_trans hl hm, fun _ => ⟨b, off, rfl, ?_, fun k x hk j v hv => ?_⟩, fun y hy => ?_⟩
   ·obtain ⟨u, hv⟩ := get_of_lt (l := ec (f 0)) (k := 0) (by rw [he]; exact hs)
    have := World.block_lt_of_cell? w _ (hcell 0 hpos 0 _ hv)
    simpa [Addr.add] using this
   ·rw [List.getElem?_map] at hk
    obtain ⟨i, hi3, rfl⟩ := Option.map_eq_some_iff.1 hk
    obtain ⟨hkl, hki⟩ := List.getElem?_eq_some_iff.1 hi3
    rw [List.getElem_range] at hki
    subst hki
    have := hcell k (by simpa using hkl) j v hv
    rw [Go.Deep.add_add, add_row] at this
    rw [Nat.add_assoc]
    exact this
   ·obtain ⟨i, _, rfl⟩ := List.mem_map.1 hy
    exact (hff i).1
theorem rg_cells (h : DataW.trod enc Tryz.prog w base spare held fuel 38 cs = some x) : ∃ y : Rg, cs = rgL y /\ True := by
 obtain ⟨xs, m, _, _, hlen, hxl, hg⟩ := DataW.trod_struct Tryz.underlying38 h
 rw [Tryz.cells38] at hlen
 obtain ⟨c0, c1, rfl⟩ := len2 hlen
 obtain ⟨y0, y1, rfl⟩ := len2 (show xs.length = 2 from hxl)
 have h0 := hg 0 _ rfl
 have h1 := hg 1 _ rfl
 simp [Tryz.cells3] at h0 h1
 obtain ⟨a, ha, _⟩ := DataW.trod_int Tryz.underlying3 h0
 obtain ⟨b, hb, _⟩ := DataW.trod_int Tryz.underlying3 h1
 injection ha with ha
 injection hb with hb
 exact ⟨⟨a, b⟩, by rw [ha, hb], trivial⟩
theorem bd_cells (h : DataW.trod enc Tryz.prog w base spare held fuel 40 cs = some x) : ∃ y : Bd, cs = bdL y /\ True := by
 obtain ⟨xs, m, _, _, hlen, hxl, hg⟩ := DataW.trod_struct Tryz.underlying40 h
 rw [Tryz.cells40] at hlen
 obtain ⟨c0, c1, c2, c3, c4, c5, c6, c7, rfl⟩ := len8 hlen
 obtain ⟨y0, y1, y2, y3, y4, rfl⟩ := len5 (show xs.length = 5 from hxl)
 have h0 := hg 0 _ rfl
 have h1 := hg 1 _ rfl
 have h2 := hg 2 _ rfl
 have h3 := hg 3 _ rfl
 have h4 := hg 4 _ rfl
 simp [Tryz.cells3, Tryz.cells38] at h0 h1 h2 h3 h4
 obtain ⟨a, ha, _⟩ := DataW.trod_int Tryz.underlying3 h0
 obtain ⟨b, hb, _⟩ := DataW.trod_int Tryz.underlying3 h1
 obtain ⟨r2, hr2, _⟩ := rg_cells h2
 obtain ⟨r3, hr3, _⟩ := rg_cells h3
 obtain ⟨r4, hr4, _⟩ := rg_cells h4
 injection ha with ha
 injection hb with hb
 simp only [rgL, List.cons.injEq, and_true] at hr2 hr3 hr4
 exact ⟨⟨a, b, r2, r3, r4⟩, by rw [ha, hb, hr2.1, hr2.2, hr3.1, hr3.2, hr4.1, hr4.2], trivial⟩
theorem col_cells (h : DataW.trod enc Tryz.prog w base spare held fuel 41 cs = some x) : ∃ y : Cl, cs = clL y /\ (y.beds.length <= maxLen /\ Row bdL 8 w w.heap.size y.a y.beds) := by
 obtain ⟨A, l, cp, e, hl, hr, _⟩ := open_rowP (ec := bdL) Tryz.underlying41 Tryz.cells40 (fun _ => rfl) (by omega) bd_cells h
 exact ⟨⟨l, A, cp⟩, e, hl, hr⟩
theorem slope_open (h : DataW.trod enc Tryz.prog w base spare held fuel 24 cs = some x) : ∃ s : Sm, cs = (smC s).toList /\ SmOk s w := by
 obtain ⟨xs, m, _, _, hlen, hxl, hg⟩ := DataW.trod_struct Tryz.underlying24 h
 rw [Tryz.cells24] at hlen
 obtain ⟨c0, c1, rfl⟩ := len2 hlen
 obtain ⟨y0, y1, rfl⟩ := len2 (show xs.length = 2 from hxl)
 have h0 := hg 0 _ rfl
 have h1 := hg 1 _ rfl
 simp [Tryz.cells3, Tryz.cells22] at h0 h1
 obtain ⟨A, l, cp, e0, _, hr, hc⟩ := open_rowP (ec := clL) Tryz.underlying22 Tryz.cells41 (fun _ => rfl) (by omega) col_cells h0
 obtain ⟨a, e1, _⟩ := DataW.trod_int Tryz.underlying3 h1
 injection e0 with e0
 injection e1 with e1
 exact ⟨⟨l, A, cp, a⟩, by rw [e0, e1], ⟨hr, fun y hy => (hc y hy).2⟩⟩
@[go_sem] theorem run_field42 (a b : Value) (w : World) : Sem.run Tryz.prog (Instr.field 38 (.agg #[a, b]) 0) w = .ok a w := by
 simp [Instr.field, asAgg, part, go_sem]
end
end

section
open Go.RowKit Go.Shelf Go.Deep
theorem info_bd69q : (Tryz.prog.info? 40).map (fun i => (i.zero, i.size, i.bytes)) = some (some (.agg #[vi 0, vi 0, vi 0, vi 0, vi 0, vi 0, vi 0, vi 0]), 8, 64) := by kernel_rfl
theorem info_col66q : (Tryz.prog.info? 41).map (fun i => (i.zero, i.size, i.bytes)) = some (some (.slice none 0 0), 1, 24) := by kernel_rfl
structure SmOwn (B : Nat) (s : Sm) (W : World) : Prop where
 own : W.ownsRow B 41 1 (.slice s.a s.cs.length s.c) s.cs.length (s.cs.flatMap clL)
 col : ∀ x ∈ s.cs, ∃ g, x.a = some ⟨g, 0, none⟩ /\ W.ownsRow B 40 8 (.slice (some ⟨g, 0, none⟩) x.beds.length x.cp) x.beds.length (x.beds.flatMap bdL)
 ap : ∀ (p q : Nat) (x y : Cl), s.cs[p]? = some x -> s.cs[q]? = some y -> p ≠ q -> x.a ≠ y.a
theorem SmOwn.next {B : Nat} {s : Sm} {W W' : World} (h : SmOwn B s W) (hb : newer W W') : SmOwn B s W' := ⟨own_below h.own hb, fun x hx => by
 obtain ⟨g, h1, h2⟩ := h.col x hx
 exact ⟨g, h1, own_below h2 hb⟩, h.ap⟩
theorem SmOwn.ok {B : Nat} {s : Sm} {W : World} (h : SmOwn B s W) : SmOk s W := ⟨row_of_own (by omega) (fun _ => rfl) h.own, fun x hx => by
 obtain ⟨g, h1, h2⟩ := h.col x hx
 rw [h1]
 exact row_of_own (by omega) (fun _ => rfl) h2⟩
structure WtQ (s : Sm) (m : Int) (i : Nat) (xs : List Cl) (A : Option Addr) (c : Nat) (w W : World) : Prop where
 nw : newer w W
 xb : Whole W w.heap.size 24 (smC s)
 rb : Whole W (w.heap.size + 1) 24 #[.slice none 0 0, vi 0]
 ob : Whole W (w.heap.size + 1 + 1) 24 #[.slice A xs.length c, vi s.least]
 own : W.ownsRow w.heap.size 41 1 (.slice A xs.length c) xs.length (xs.flatMap clL)
 col : ∀ x ∈ xs, ∃ g, x.a = some ⟨g, 0, none⟩ /\ W.ownsRow w.heap.size 40 8 (.slice (some ⟨g, 0, none⟩) x.beds.length x.cp) x.beds.length (x.beds.flatMap bdL)
 eq : xs.map (fun x => x.beds) = (s.cs.take i).map fun x => x.beds.map (wetBd m)
 ln : xs.length = i
 ap : ∀ (p q : Nat) (x y : Cl), xs[p]? = some x -> xs[q]? = some y -> p ≠ q -> x.a ≠ y.a
section
variable {s : Sm} {m : Int} {i : Nat} {xs : List Cl} {A : Option Addr} {c : Nat} {w W W' : World}
theorem WtQ.next (h : WtQ s m i xs A c w W) (hb : newer W W') : WtQ s m i xs A c w W' :=
 ⟨newer_trans h.nw hb, h.xb.below hb h.xb.lt, h.rb.below hb h.rb.lt, h.ob.below hb h.ob.lt, own_below h.own hb, fun x hx => by
  obtain ⟨g, h1, h2⟩ := h.col x hx
  exact ⟨g, h1, own_below h2 hb⟩, h.eq, h.ln, h.ap⟩
theorem WtQ.add (h : WtQ s m i xs A c w W) {x y : Cl} (hx : s.cs[i]? = some x) {g cp : Nat} (hy : y = ⟨x.beds.map (wetBd m), some ⟨g, 0, none⟩, cp⟩) (hc : W.ownsRow w.heap.size 40 8 (.slice (some ⟨g, 0, none⟩) y.beds.length cp) y.beds.length (y.beds.flatMap bdL)) (hfar : ∀ x ∈ xs, x.a ≠ some ⟨g, 0, none⟩)
  {g2 c2 : Nat} (hown : W'.ownsRow w.heap.size 41 1 (.slice (some ⟨g2, 0, none⟩) (xs.length + 1) c2) (xs.length + 1) (xs.flatMap clL ++ [clV y])) (hw : (A = some ⟨g2, 0, none⟩ /\ c2 = c /\ W.grownBy W' (some g2)) ∨ (W.heap.size <= g2 /\ W.grownBy W' none)) :
  Whole W' (w.heap.size + 1 + 1) 24 #[.slice A xs.length c, vi s.least] /\ WtQ s m (i + 1) (xs ++ [y]) (some ⟨g2, 0, none⟩) c2 w (W'.setCell ⟨w.heap.size + 1 + 1, 0, none⟩ (.slice (some ⟨g2, 0, none⟩) (xs.length + 1) c2)) := by
 have hgr : W.grownBy W' (Value.slice A xs.length c).ownBlock := by
  rcases hw with ⟨h1, _, h3⟩ | ⟨_, h3⟩
  ·rw [h1]; exact h3
  ·exact h3.but _
 have k1 := h.xb.grown hgr (fun e => own_ne h.own h.xb (by decide) e.symm)
 have k2 := h.rb.grown hgr (fun e => own_ne h.own h.rb (by decide) e.symm)
 have k3 := h.ob.grown hgr (fun e => own_ne h.own h.ob (by decide) e.symm)
 have k4 : ∀ (x : Cl) (g : Nat), W.ownsRow w.heap.size 40 8 (.slice (some ⟨g, 0, none⟩) x.beds.length x.cp) x.beds.length (x.beds.flatMap bdL) -> W'.ownsRow w.heap.size 40 8 (.slice (some ⟨g, 0, none⟩) x.beds.length x.cp) x.beds.length (x.beds.flatMap bdL) := fun x g h2 => h2.kept hgr (.inr (fun e => own_own_ne h2 h.own (by decide) g rfl (e ▸ rfl)))
 have hnw : newer w W' := by
  rcases hw with ⟨h1, _, h3⟩ | ⟨_, h3⟩
  ·refine Below.trans h.nw (below_of_grown h3 (own_ge h.own g2 (by rw [h1]; rfl)) h.nw.size)
  ·exact newer_trans h.nw (below_grown h3 (fun q e => by cases e) (Nat.le_refl _))
 have hlt := k3.lt
 refine ⟨k3, hnw.setCell (p := ⟨w.heap.size + 1 + 1, 0, none⟩) (by show w.heap.size <= w.heap.size + 1 + 1; omega) _, k1.far (p := ⟨w.heap.size + 1 + 1, 0, none⟩) (by show w.heap.size ≠ w.heap.size + 1 + 1; omega) _, k2.far (p := ⟨w.heap.size + 1 + 1, 0, none⟩) (by show w.heap.size + 1 ≠ w.heap.size + 1 + 1; omega) _, ?_, ?_, fun z hz => ?_, ?_, by rw [List.length_append, h.ln]; rfl, fun p q u v hp hq hpq => ?_⟩
 ·rw [List.length_append]
  exact k3.set 0 _
 ·rw [List.length_append, List.flatMap_append]
  exact own_set hown (own_ne hown k3 (by decide)) _
 ·rcases List.mem_append.1 hz with hz | hz
  ·obtain ⟨g', h1, h2⟩ := h.col z hz
   have h3 := k4 z g' h2
   exact ⟨g', h1, own_set h3 (own_ne h3 k3 (by decide)) _⟩
  ·obtain rfl : z = y := List.mem_singleton.1 hz
   have h3 := k4 z g (by rw [hy] at hc ⊢; exact hc)
   exact ⟨g, by rw [hy], own_set h3 (own_ne h3 k3 (by decide)) _⟩
 ·rw [List.map_append, h.eq, List.take_add_one, hx, List.map_append]
  congr 1
  rw [hy]
  rfl
 ·have hya : y.a = some ⟨g, 0, none⟩ := by rw [hy]
  have hin : ∀ (r : Nat) (t : Cl), (xs ++ [y])[r]? = some t -> (r < xs.length /\ xs[r]? = some t) ∨ (r = xs.length /\ t = y) := fun r t ht => by
   by_cases hr : r < xs.length
   ·rw [List.getElem?_append_left hr] at ht
    exact .inl ⟨hr, ht⟩
   ·rw [List.getElem?_append_right (by omega)] at ht
    obtain ⟨h1, h2⟩ := List.getElem?_eq_some_iff.1 ht
    simp at h1
    refine .inr ⟨by omega, ?_⟩
    rw [<- h2]
    simp
  rcases hin p u hp with ⟨a1, a2⟩ | ⟨a1, rfl⟩ <;> rcases hin q v hq with ⟨b1, b2⟩ | ⟨b1, rfl⟩
  ·exact h.ap p q u v a2 b2 hpq
  ·rw [hya]; exact hfar u (List.mem_of_getElem? a2)
  ·rw [hya]; exact (hfar v (List.mem_of_getElem? b2)).symm
  ·omega
theorem WtQ.done (h : WtQ s m s.cs.length xs A c w W) (u v : Value) : SmOk ⟨xs, A, c, s.least⟩ ((W.setCell ⟨w.heap.size + 1, 0, none⟩ u).setCell ⟨w.heap.size + 1, 1, none⟩ v) /\ Sm.sd ⟨xs, A, c, s.least⟩ = wetS s.sd m /\ newer w ((W.setCell ⟨w.heap.size + 1, 0, none⟩ u).setCell ⟨w.heap.size + 1, 1, none⟩ v) /\ Whole ((W.setCell ⟨w.heap.size + 1, 0, none⟩ u).setCell ⟨w.heap.size + 1, 1, none⟩ v) (w.heap.size + 1) 24 #[u, v] /\ SmOwn w.heap.size ⟨xs, A, c, s.least⟩ ((W.setCell ⟨w.heap.size + 1, 0, none⟩ u).setCell ⟨w.heap.size + 1, 1, none⟩ v) := by
 refine ⟨⟨?_, fun x hx => ?_⟩, ?_, (h.nw.setCell (p := ⟨w.heap.size + 1, 0, none⟩) (Nat.le_succ _) u).setCell (p := ⟨w.heap.size + 1, 1, none⟩) (Nat.le_succ _) v, (h.rb.set 0 u).set 1 v, own_set (own_set h.own (own_ne h.own h.rb (by decide)) u) (own_ne h.own h.rb (by decide)) v, fun x hx => by
  obtain ⟨g, h1, h2⟩ := h.col x hx
  exact ⟨g, h1, own_set (own_set h2 (own_ne h2 h.rb (by decide)) u) (own_ne h2 h.rb (by decide)) v⟩, h.ap⟩
 ·exact row_of_own (by omega) (fun _ => rfl) (own_set (own_set h.own (own_ne h.own h.rb (by decide)) u) (own_ne h.own h.rb (by decide)) v)
 ·obtain ⟨g, h1, h2⟩ := h.col x hx
  rw [h1]
  exact row_of_own (by omega) (fun _ => rfl) (own_set (own_set h2 (own_ne h2 h.rb (by decide)) u) (own_ne h2 h.rb (by decide)) v)
 ·have e := h.eq
  rw [List.take_length] at e
  show (⟨xs.map (fun x => x.beds), s.least⟩ : Sd) = ⟨(s.cs.map fun x => x.beds).map fun l => l.map (wetBd m), s.least⟩
  rw [e, List.map_map]
  rfl
end
set_option maxRecDepth 100000 in
set_option maxHeartbeats 1000000 in
theorem wetterO_any (s : Sm) (m : Int) (w : World) (hok : SmOk s w) (hs : SdOk s.sd) (m0 : 0 <= m) (m1 : m <= 100000) : Calls Tryz.prog 9 #[smV s, vi m] w fun e w' => ∃ s2 : Sm, e = .returned (smV s2) /\ s2.sd = wetS s.sd m /\ SmOk s2 w' /\ SmOwn w.heap.size s2 w' /\ newer w w' := by
 have hcl : s.cs.length <= 12 := by have h1 := hs.cols; rw [sd_len] at h1; omega
 have H0 : Hid (WtQ s m 0 [] none 0 w (((w.alloc (.cells (smC s) 24)).alloc (.cells #[.slice none 0 0, vi 0] 24)).alloc (.cells #[.slice none 0 0, vi s.least] 24))) := Lib.hid (by
  have e1 := newer_allocH w (.cells (smC s) 24)
  have e2 := newer_allocH (w.alloc (.cells (smC s) 24)) (.cells #[.slice none 0 0, vi 0] 24)
  have e3 := newer_allocH ((w.alloc (.cells (smC s) 24)).alloc (.cells #[.slice none 0 0, vi 0] 24)) (.cells #[.slice none 0 0, vi s.least] 24)
  have a1 := Whole.made w 24 (smC s)
  have a2 := Whole.made (w.alloc (.cells (smC s) 24)) 24 #[.slice none 0 0, vi 0]
  have a3 := Whole.made ((w.alloc (.cells (smC s) 24)).alloc (.cells #[.slice none 0 0, vi 0] 24)) 24 #[.slice none 0 0, vi s.least]
  rw [World.size_alloc] at a2
  rw [World.size_alloc, World.size_alloc] at a3
  exact ⟨newer_trans (newer_trans e1 e2) e3, (a1.below e2 a1.lt).below e3 (by simp; omega), a2.below e3 a2.lt, a3, ⟨rfl, .inl ⟨rfl, rfl⟩⟩, fun x hx => by simp at hx, rfl, rfl, fun p q x y hx => by simp at hx⟩)
 have HOK := Lib.hid hok
 have HSD := Lib.hid hs
 obtain ⟨i0, hi0, hz0, hz1, hz2⟩ := info_parts info_col66q
 obtain ⟨i9, hj0, hj1, hj2, hj3⟩ := info_parts info_bd69q
 have HI9 := Lib.hid (And.intro hj0 (And.intro hj1 (And.intro hj2 hj3)))
 clear hj0 hj1 hj2 hj3
 have HI := Lib.hid (And.intro hi0 (And.intro hz0 (And.intro hz1 hz2)))
 have x0 := H0.out.xb.at 0 (v := .slice s.a s.cs.length s.c) rfl
 have x1 := H0.out.xb.at 1 (v := vi s.least) rfl
 obtain ⟨y0, hy0⟩ := get_of_lt (l := s.cs) (k := 0) (by have h1 := hs.cols; rw [sd_len] at h1; omega)
 obtain ⟨b1, o1, ea, _, _⟩ := rowC hok.cs hy0
 have HSA := Lib.hid ea
 rw [ea] at x0
 clear hok hs hi0 hz0 hz1 hz2 ea hy0
 go_enter Tryz.func9, Tryz.ntmps9
 go_wp2_with fail
 go_loopw [6] (fun s6 wr => ∃ (i : Nat) (xs : List Cl) (A : Option Addr) (c : Nat), i <= s.cs.length /\ s6 = vi i /\ WtQ s m i xs A c w wr) (fun s6 _ => s.cs.length - (intOf s6).toNat)
 case atStart => exact ⟨0, [], none, 0, Nat.zero_le _, rfl, H0.out⟩
 case round =>
  obtain ⟨i, xs, A, c, hi, rfl, hj⟩ := hrel
  clear x0 x1 H0
  have HJ := Lib.hid hj
  clear hj
  obtain ⟨wo, rfl⟩ : ∃ wo : World, wo = wr := ⟨_, rfl⟩
  have x0 := HJ.out.xb.at 0 (v := .slice s.a s.cs.length s.c) rfl
  rw [HSA.out] at x0
  by_cases hlt : i < s.cs.length
  ·obtain ⟨x, hx⟩ := get_of_lt hlt
   have hxm : x.beds ∈ s.sd.cols := List.mem_map.2 ⟨x, List.mem_of_getElem? hx, rfl⟩
   have hxl : x.beds.length = s.sd.n := HSD.out.len _ hxm
   have hxn : x.beds.length <= 5 /\ 1 <= x.beds.length := by have h1 := HSD.out.beds; omega
   have HX := Lib.hid (And.intro hx (HSD.out.bd _ hxm))
   obtain ⟨b2, o2, ea, _, cx⟩ := rowC (HOK.out.next HJ.out.nw).cs hx
   rw [HSA.out] at ea
   obtain ⟨rfl, rfl⟩ : b1 = b2 /\ o1 = o2 := by simpa using ea
   have HRO := Lib.hid (row_alloc ((HOK.out.next HJ.out.nw).bd x (List.mem_of_getElem? hx)) (.cells #[] 40))
   have HWN := Lib.hid (Whole.made wo 40 #[])
   clear hx hxm hxl ea
   have hn0 := newer_allocH wo (.cells #[] 40)
   have x0b := keep_cell x0 hn0
   have cxb := keep_cell cx hn0
   clear hn0
   go_wp2_with (at_builtin; go_loud ((refine wpList_plain rfl fun K hK => wp_append_owncopy (enc := bdL) (size := 8) wo.heap.size (.tmp 19) (.tmp 24) 41 40 i9 (.agg #[vi 0, vi 0, vi 0, vi 0, vi 0, vi 0, vi 0, vi 0]) 64 Tryz.underlying41 HI9.out.1 HI9.out.2.1 HI9.out.2.2.1 HI9.out.2.2.2 rfl (by omega) (by omega) (fun _ => rfl) rfl wo.heap.size rfl (Nat.le_refl _) HWN.out x.beds x.a x.cp rfl (by omega) HRO.out (by rw [World.size_alloc]; omega) fun B cp w3 hB hb hc => hK _ _ ?_); have HB := Lib.hid (And.intro hB (newer_trans (newer_allocH wo (.cells #[] 40)) hb)); clear hB hb hc))
   obtain ⟨g, rfl, _⟩ := own_some HB.out.1 (by omega)
   have H3 := Lib.hid (And.intro HB.out.1 HB.out.2)
   have hown := HB.out.1
   have hgs : wo.heap.size <= g := own_ge hown g rfl
   have HGS := Lib.hid hgs
   clear hown hgs cx x0b cxb HB HRO HWN
   go_wp2_with fail
   go_loopw [8] (fun s8 wr => ∃ k : Nat, k <= x.beds.length /\ s8 = vi k /\ newer wo wr /\ wr.ownsRow wo.heap.size 40 8 (.slice (some ⟨g, 0, none⟩) x.beds.length cp) x.beds.length ((wetTo m x.beds k).flatMap bdL)) (fun s8 _ => x.beds.length - (intOf s8).toNat)
   case atStart => exact ⟨0, Nat.zero_le _, rfl, H3.out.2, by rw [wetTo_zero]; exact H3.out.1⟩
   case round =>
    obtain ⟨k, hk, rfl, q1, q2⟩ := hrel
    clear H3
    by_cases hlt2 : k < x.beds.length
    ·obtain ⟨bd, hbd⟩ := get_of_lt hlt2
     obtain ⟨b2, o2, e2, _, d0, d1, d2, d3, d4, d5, d6, d7⟩ := row8 (row_of_own (enc := bdL) (size := 8) (by omega) (fun _ => rfl) q2) (wetTo_get hbd)
     obtain ⟨rfl, rfl⟩ : g = b2 /\ 0 = o2 := by simpa using e2
     simp only [Nat.zero_add] at d7
     obtain ⟨cs, hcs⟩ := own_cells q2
     have f7 := hcs.free (k * 8 + 7)
     have hbb := (bdB_parts (HX.out.2 bd (List.mem_of_getElem? hbd))).2.2.2.2
     have HQ := Lib.hid (And.intro q1 (And.intro q2 hbd))
     obtain ⟨wi, rfl⟩ : ∃ wi : World, wi = wr := ⟨_, rfl⟩
     clear q1 q2 e2 hcs d0 d1 d2 d3 d4 d5 d6 hbd
     have HN : ∀ v : Int, v = mnI 100000 (bd.wa.hi + m) -> Hid (newer wo (wi.setCell ⟨g, k * 8 + 7, none⟩ (vi v)) /\ (wi.setCell ⟨g, k * 8 + 7, none⟩ (vi v)).ownsRow wo.heap.size 40 8 (.slice (some ⟨g, 0, none⟩) x.beds.length cp) x.beds.length ((wetTo m x.beds (k + 1)).flatMap bdL)) := by
      intro v hv
      have h1 := wetTo_get (m := m) HQ.out.2.2
      refine Lib.hid ⟨HQ.out.1.setCell (p := ⟨g, k * 8 + 7, none⟩) HGS.out _, ?_⟩
      rw [<- wetTo_set HQ.out.2.2, show wetBd m bd = { bd with wa := ⟨bd.wa.lo, v⟩ } by rw [hv]; rfl, <- flat_set7 _ _ _ _ h1]
      exact own_setAt HQ.out.2.1
     by_cases hmn : bd.wa.hi + m < 100000
     ·have HE := HN (bd.wa.hi + m) (by unfold mnI; rw [if_pos hmn])
      clear HN
      go_wp2_with fail
      refine ⟨⟨k + 1, by omega, rfl, HE.out.1, HE.out.2⟩, ?_⟩
      simp [intOf]
      omega
     ·have HE := HN 100000 (by unfold mnI; rw [if_neg hmn])
      clear HN
      go_wp2_with fail
      refine ⟨⟨k + 1, by omega, rfl, HE.out.1, HE.out.2⟩, ?_⟩
      simp [intOf]
      omega
    ·obtain rfl : k = x.beds.length := by omega
     rw [wetTo_all] at q2
     obtain ⟨y, hy⟩ : ∃ y : Cl, y = ⟨x.beds.map (wetBd m), some ⟨g, 0, none⟩, cp⟩ := ⟨_, rfl⟩
     have HJ2 := Lib.hid (HJ.out.next q1)
     have hyl : y.beds.length = x.beds.length := by rw [hy]; simp
     have hyb : y.beds = x.beds.map (wetBd m) := by rw [hy]
     have hn1 := newer_allocH wr (.cells #[.slice (some ⟨g, 0, none⟩) x.beds.length cp] 41)
     have HADD := Lib.hid (fun g2 c2 w5 => (HJ2.out.next hn1).add (W' := w5) HX.out.1 hy (by rw [hyl, hyb]; exact own_more (own_below q2 hn1) HJ.out.nw.size) (fun z hz e => by obtain ⟨g', h1, h2⟩ := HJ.out.col z hz; obtain ⟨cs', h3⟩ := own_cells h2; have h4 := h3.lt; have h5 := HGS.out; rw [h1] at e; injection e with e; injection e with e; omega) (g2 := g2) (c2 := c2))
     have hcy : clV y = .slice (some ⟨g, 0, none⟩) x.beds.length cp := by rw [hy]; simp
     have HJ3 := Lib.hid (HJ2.out.next hn1)
     have HXS := Lib.hid (show xs.length <= 12 by have := HJ.out.ln; omega)
     have HCW : Hid ((wr.alloc (.cells #[.slice (some ⟨g, 0, none⟩) x.beds.length cp] 41)).cell? ⟨wr.heap.size, 0, none⟩ = some (.slice (some ⟨g, 0, none⟩) x.beds.length cp)) := Lib.hid ((Whole.made wr 41 #[.slice (some ⟨g, 0, none⟩) x.beds.length cp]).at 0 rfl)
     rw [hcy] at HADD
     have o0 := HJ2.out.ob.at 0 (v := .slice A xs.length c) rfl
     clear q1 q2 hyl hyb hn1 hcy hy
     go_wp2_with (at_builtin; go_loud ((refine wpList_plain rfl fun _ hK => wp_append_one (.tmp 47) (.tmp 49) 22 rfl w.heap.size 41 i0 (.slice none 0 0) 24 Tryz.underlying22 HI.out.1 HI.out.2.1 HI.out.2.2.1 HI.out.2.2.2 rfl A xs.length c (xs.flatMap clL) rfl HJ3.out.own ⟨wr.heap.size, 0, none⟩ 1 (.slice (some ⟨g, 0, none⟩) x.beds.length cp) rfl HCW.out rfl (by have := HXS.out; unfold maxLen; omega) (by have := HXS.out; omega) HJ3.out.nw.size fun g2 c2 w5 hown hwh => hK _ _ ?_); have HE := Lib.hid (HADD.out g2 c2 w5 hown hwh); have p0 := HE.out.1.at 0 (v := .slice A xs.length c) rfl; have pf0 := HE.out.1.free 0; clear hown hwh))
     refine ⟨⟨i + 1, xs ++ [y], some ⟨g2, 0, none⟩, c2, by omega, rfl, HE.out.2⟩, ?_⟩
     simp [intOf]
     omega
  ·obtain rfl : i = s.cs.length := by omega
   have o0 := HJ.out.ob.at 0 (v := .slice A xs.length c) rfl
   have o1 := HJ.out.ob.at 1 (v := vi s.least) rfl
   have r0 := HJ.out.rb.at 0 (v := .slice none 0 0) rfl
   have r1 := HJ.out.rb.at 1 (v := vi 0) rfl
   have f0 := HJ.out.rb.free 0
   have f1 := HJ.out.rb.free 1
   have HF := Lib.hid (HJ.out.done (.slice A xs.length c) (vi s.least))
   have z0 := HF.out.2.2.2.1.at 0 (v := .slice A xs.length c) rfl
   have z1 := HF.out.2.2.2.1.at 1 (v := vi s.least) rfl
   go_wp2_with fail
   exact bodyPost_ret (v := .agg #[.slice A xs.length c, vi s.least]) (by simp [results, Tryz.results9, go_sem, z0, z1]) rfl ⟨⟨xs, A, c, s.least⟩, rfl, HF.out.2.1, HF.out.1, HF.out.2.2.2.2, HF.out.2.2.1⟩
end

section
open Go.RowKit Go.Shelf Go.Deep
theorem info_rl101 : (Tryz.prog.info? 131).map (fun i => (i.zero, i.size, i.bytes)) = some (some (.agg #[vi 0, vi 0, vi 0]), 3, 24) := by kernel_rfl
set_option maxRecDepth 100000 in
set_option maxHeartbeats 1000000 in
theorem lawTruth (tl : List Rl) (A : Option Addr) (c : Nat) (w : World) (hl : tl.length <= 1000) (hr : Row rlL 3 w w.heap.size A tl) : Calls Tryz.prog 22 #[.slice A tl.length c] w fun e w' => ∃ B d, e = .returned (.slice B tl.length d) /\ Row rlL 3 w' w'.heap.size B tl /\ newer w w' := by
 have HR := Lib.hid hr
 obtain ⟨i8, hj0, hy0, hy1, hy2⟩ := info_parts info_rl101
 have HI8 := Lib.hid (And.intro hj0 (And.intro hy0 (And.intro hy1 hy2)))
 clear hr hj0 hy0 hy1 hy2
 go_enter Tryz.func22, Tryz.ntmps22
 go_wp2_with fail
 go_loopw [3, 4] (fun s3 s4 wr => ∃ (k : Nat) (B : Option Addr) (d : Nat), s4 = vi k /\ k <= tl.length /\ s3 = .slice B k d /\ newer w wr /\ wr.ownsRow w.heap.size 131 3 (.slice B k d) k ((tl.take k).flatMap rlL)) (fun _ s4 _ => tl.length - (intOf s4).toNat)
 case atStart => exact ⟨0, none, 0, rfl, Nat.zero_le _, rfl, newer_refl _, ⟨rfl, .inl ⟨rfl, rfl⟩⟩⟩
 case round =>
  obtain ⟨k, B, d, rfl, hk, rfl, hn, hown⟩ := hrel
  have HQ := Lib.hid (And.intro hn hown)
  clear hn hown
  by_cases hlt : k < tl.length
  ·obtain ⟨y, hy⟩ := get_of_lt hlt
   obtain ⟨bt, ot, rfl, _, r0, r1, r2⟩ := row3 (HR.out.below HQ.out.1) hy
   have hkt : (k : Int) < tl.length := by omega
   have HY := Lib.hid hy
   clear hy
   go_upto_region 5 with fail
   refine wp_words (by kernel_rfl) (region_told 18 (by kernel_rfl) (by kernel_rfl) (fun W => Below wr.heap.size wr W) newer (pickD [vIs (.slice B k d), vIs (.slice (some ⟨bt, ot, none⟩) tl.length c), vIs (vi k), vIs (.pointer (some ⟨bt, ot + k * 3, none⟩)), vIs (.pointer (some ⟨bt, ot + k * 3, none⟩)), vIs (vi y.fr), vIs (.slice (some ⟨bt, ot, none⟩) tl.length c), vIs (vi k), vIs (.pointer (some ⟨bt, ot + k * 3, none⟩)), vIs (.pointer (some ⟨bt, ot + k * 3 + 1, none⟩)), vIs (vi y.co), vIs (.slice (some ⟨bt, ot, none⟩) tl.length c), vIs (vi k), vIs (.pointer (some ⟨bt, ot + k * 3, none⟩)), vIs (.pointer (some ⟨bt, ot + k * 3 + 2, none⟩)), vIs (vi y.wa), vIs (rlV y), vOne wr.heap.size 131 (rlC y)]) (fun h k => newer_trans h k) (pickD_stable _ ⟨vIs_st, vIs_st, vIs_st, vIs_st, vIs_st, vIs_st, vIs_st, vIs_st, vIs_st, vIs_st, vIs_st, vIs_st, vIs_st, vIs_st, vIs_st, vIs_st, vIs_st, vOne_st, trivial⟩) (Below.refl _ wr).drew (Below.refl _ _) ?_ ?_)
   ·refine ⟨?_, ?_, ?_, ?_, ?_, ?_, ?_, ?_, ?_, ?_, ?_, ?_, ?_, ?_, ?_, ?_, ?_, ?_, trivial⟩
    ·intro a W hG hR hO hp; have h3 := hO.slot 3 (by kernel_rfl); refine wp_yields (v := .slice B k d) ?_ ⟨_, rfl, rfl, Below.refl _ _, hG⟩; simp [slotOf] at h3; simp [execOp, go_sem, h3]
    ·intro a W hG hR hO hp; have h0 := hO.slot 0 (by kernel_rfl); refine wp_yields (v := .slice (some ⟨bt, ot, none⟩) tl.length c) ?_ ⟨_, rfl, rfl, Below.refl _ _, hG⟩; simp [slotOf] at h0; simp [execOp, go_sem, h0]
    ·intro a W hG hR hO hp; have h4 := hO.slot 4 (by kernel_rfl); refine wp_yields (v := vi k) ?_ ⟨_, rfl, rfl, Below.refl _ _, hG⟩; simp [slotOf] at h4; simp [execOp, go_sem, h4]
    ·intro a W hG hR hO hp; have h12 : slotOf a 12 = .slice (some ⟨bt, ot, none⟩) tl.length c := hp.1; have h13 : slotOf a 13 = vi k := hp.2.1; refine wp_yields (v := .pointer (some ⟨bt, ot + k * 3, none⟩)) ?_ ⟨_, rfl, rfl, Below.refl _ _, hG⟩; simp [slotOf] at h12 h13; simp [execOp, go_sem, h12, h13, hkt]
    ·intro a W hG hR hO hp; have h14 : slotOf a 14 = .pointer (some ⟨bt, ot + k * 3, none⟩) := hp.1; refine wp_yields (v := .pointer (some ⟨bt, ot + k * 3, none⟩)) ?_ ⟨_, rfl, rfl, Below.refl _ _, hG⟩; simp [slotOf] at h14; simp [execOp, go_sem, h14]
    ·intro a W hG hR hO hp; have h15 : slotOf a 15 = .pointer (some ⟨bt, ot + k * 3, none⟩) := hp.1; have c0 := keep_cell r0 hG; refine wp_yields (v := vi y.fr) ?_ ⟨_, rfl, rfl, Below.refl _ _, hG⟩; simp [slotOf] at h15; simp [execOp, go_sem, h15, c0]
    ·intro a W hG hR hO hp; have h0 := hO.slot 0 (by kernel_rfl); refine wp_yields (v := .slice (some ⟨bt, ot, none⟩) tl.length c) ?_ ⟨_, rfl, rfl, Below.refl _ _, hG⟩; simp [slotOf] at h0; simp [execOp, go_sem, h0]
    ·intro a W hG hR hO hp; have h4 := hO.slot 4 (by kernel_rfl); refine wp_yields (v := vi k) ?_ ⟨_, rfl, rfl, Below.refl _ _, hG⟩; simp [slotOf] at h4; simp [execOp, go_sem, h4]
    ·intro a W hG hR hO hp; have h17 : slotOf a 17 = .slice (some ⟨bt, ot, none⟩) tl.length c := hp.1; have h18 : slotOf a 18 = vi k := hp.2.1; refine wp_yields (v := .pointer (some ⟨bt, ot + k * 3, none⟩)) ?_ ⟨_, rfl, rfl, Below.refl _ _, hG⟩; simp [slotOf] at h17 h18; simp [execOp, go_sem, h17, h18, hkt]
    ·intro a W hG hR hO hp; have h19 : slotOf a 19 = .pointer (some ⟨bt, ot + k * 3, none⟩) := hp.1; refine wp_yields (v := .pointer (some ⟨bt, ot + k * 3 + 1, none⟩)) ?_ ⟨_, rfl, rfl, Below.refl _ _, hG⟩; simp [slotOf] at h19; simp [execOp, go_sem, h19]
    ·intro a W hG hR hO hp; have h20 : slotOf a 20 = .pointer (some ⟨bt, ot + k * 3 + 1, none⟩) := hp.1; have c0 := keep_cell r1 hG; refine wp_yields (v := vi y.co) ?_ ⟨_, rfl, rfl, Below.refl _ _, hG⟩; simp [slotOf] at h20; simp [execOp, go_sem, h20, c0]
    ·intro a W hG hR hO hp; have h0 := hO.slot 0 (by kernel_rfl); refine wp_yields (v := .slice (some ⟨bt, ot, none⟩) tl.length c) ?_ ⟨_, rfl, rfl, Below.refl _ _, hG⟩; simp [slotOf] at h0; simp [execOp, go_sem, h0]
    ·intro a W hG hR hO hp; have h4 := hO.slot 4 (by kernel_rfl); refine wp_yields (v := vi k) ?_ ⟨_, rfl, rfl, Below.refl _ _, hG⟩; simp [slotOf] at h4; simp [execOp, go_sem, h4]
    ·intro a W hG hR hO hp; have h22 : slotOf a 22 = .slice (some ⟨bt, ot, none⟩) tl.length c := hp.1; have h23 : slotOf a 23 = vi k := hp.2.1; refine wp_yields (v := .pointer (some ⟨bt, ot + k * 3, none⟩)) ?_ ⟨_, rfl, rfl, Below.refl _ _, hG⟩; simp [slotOf] at h22 h23; simp [execOp, go_sem, h22, h23, hkt]
    ·intro a W hG hR hO hp; have h24 : slotOf a 24 = .pointer (some ⟨bt, ot + k * 3, none⟩) := hp.1; refine wp_yields (v := .pointer (some ⟨bt, ot + k * 3 + 2, none⟩)) ?_ ⟨_, rfl, rfl, Below.refl _ _, hG⟩; simp [slotOf] at h24; simp [execOp, go_sem, h24]
    ·intro a W hG hR hO hp; have h25 : slotOf a 25 = .pointer (some ⟨bt, ot + k * 3 + 2, none⟩) := hp.1; have c0 := keep_cell r2 hG; refine wp_yields (v := vi y.wa) ?_ ⟨_, rfl, rfl, Below.refl _ _, hG⟩; simp [slotOf] at h25; simp [execOp, go_sem, h25, c0]
    ·intro a W hG hR hO hp; have h16 : slotOf a 16 = vi y.fr := hp.1; have h21 : slotOf a 21 = vi y.co := hp.2.1; have h26 : slotOf a 26 = vi y.wa := hp.2.2.1; refine wp_yields (v := rlV y) ?_ ⟨_, rfl, rfl, Below.refl _ _, hG⟩; simp [slotOf] at h16 h21 h26; simp [execOp, go_sem, h16, h21, h26]
    ·intro a W hG hR hO hp; have h27 : slotOf a 27 = rlV y := hp.1; refine wp_makes (v := .slice (some ⟨W.heap.size, 0, none⟩) 1 1) (W' := W.alloc (.cells (rlC y) 131)) ?_ ⟨_, rfl, ⟨_, rfl, hG.size, Whole.made _ _ _⟩, newer_allocH _ _, below_next hG (newer_allocH _ _)⟩; simp [slotOf] at h27; simp [execOp, go_sem, h27]
   ·intro wz hG hR
    rintro _ rfl _ rfl _ rfl _ rfl _ rfl _ rfl _ rfl _ rfl _ rfl _ rfl _ rfl _ rfl _ rfl _ rfl _ rfl _ rfl _ rfl _ ⟨nb, rfl, hnb, hW⟩
    change wpList _ _ _ _ _ _
    simp only [Act.put, List.setIfInBounds_toArray, List.set_cons_zero, List.set_cons_succ, List.drop_succ_cons, List.drop_zero]
    have HO := Lib.hid (own_below HQ.out.2 hG)
    have HN := Lib.hid (newer_trans HQ.out.1 hG)
    have HWN := Lib.hid (World.news_of_block hW)
    clear hG hR hW r0 r1 r2 HQ
    go_wp2_with (at_builtin; go_loud ((refine wpList_append_lies _ rfl (.tmp 11) (.tmp 28) 74 rfl w.heap.size 131 i8 (.agg #[vi 0, vi 0, vi 0]) 3 24 Tryz.underlying74 HI8.out.1 HI8.out.2.1 HI8.out.2.2.1 HI8.out.2.2.2 rfl (by omega) _ k _ rfl HO.out ⟨nb, 0, none⟩ 1 1 (rlL y) rfl rfl HWN.out (by simp [Value.oneCell']) (by omega) (by unfold maxLen; omega) (by omega) HN.out.size wz.heap.size rfl ?_); intro gg cp2 w2 hown2 hgrow2 hat2 hlt3; rw [<- take_flat rlL _ k y HY.out] at hown2; have HE := Lib.hid (And.intro hown2 (And.intro hgrow2 (own_ge HO.out))); clear hown2 hgrow2 hat2 hlt3))
    refine ⟨⟨k + 1, some ⟨gg, 0, none⟩, cp2, rfl, by omega, rfl, ?_, HE.out.1⟩, ?_⟩
    ·exact below_grown (grown_trans' (grown_of_newer HN.out _) HE.out.2.1) HE.out.2.2 (Nat.le_refl _)
    ·simp [intOf]
     omega
  ·obtain rfl : k = tl.length := by omega
   have hown := HQ.out.2
   rw [List.take_of_length_le (Nat.le_refl _)] at hown
   have HE := Lib.hid (row_of_own (enc := rlL) (size := 3) (by omega) (fun _ => rfl) hown)
   clear hown
   go_wp2_with fail
   go_ret
   exact ⟨B, d, rfl, HE.out, HQ.out.1⟩
set_option maxRecDepth 100000 in
set_option maxHeartbeats 1000000 in
theorem truthAt_any (tl : List Rl) (A : Option Addr) (c tb i : Nat) (b : Bd) (y : Rl) (w : World) (ht : Whole w tb 74 #[.slice A tl.length c]) (hr : Row rlL 3 w w.heap.size A tl) (hy : tl[i]? = some y) : Calls Tryz.prog 53 #[vi i, bdV b, .pointer (some ⟨tb, 0, none⟩)] w fun e w' => e = .returned (rlV y) /\ newer w w' := by
 have hlt := (List.getElem?_eq_some_iff.1 hy).1
 have hki : (i : Int) < tl.length := by omega
 have e0 : newer w ((w.alloc (.cells (bdC b) 91)).alloc (.cells #[vi 0, vi 0, vi 0] 131)) := newer_trans (newer_allocH w (.cells (bdC b) 91)) (newer_allocH (w.alloc (.cells (bdC b) 91)) (.cells #[vi 0, vi 0, vi 0] 131))
 have a0 := Whole.made (w.alloc (.cells (bdC b) 91)) 131 #[vi 0, vi 0, vi 0]
 simp only [World.size_alloc] at a0
 obtain ⟨bt, ot, rfl, _, r0, r1, r2⟩ := row3 (hr.below e0) hy
 have c0 := (ht.below e0 ht.lt).at 0 (v := .slice (some ⟨bt, ot, none⟩) tl.length c) rfl
 have z0 := a0.at 0 (v := vi 0) rfl
 have z1 := a0.at 1 (v := vi 0) rfl
 have z2 := a0.at 2 (v := vi 0) rfl
 have f0 := a0.free 0
 have f1 := a0.free 1
 have f2 := a0.free 2
 have HZ : Hid (newer w ((w.alloc (.cells (bdC b) 91)).alloc (.cells (rlC y) 131)) /\ Whole ((w.alloc (.cells (bdC b) 91)).alloc (.cells (rlC y) 131)) (w.heap.size + 1) 131 (rlC y)) := Lib.hid ⟨newer_trans (newer_allocH w (.cells (bdC b) 91)) (newer_allocH (w.alloc (.cells (bdC b) 91)) (.cells (rlC y) 131)), by have h := Whole.made (w.alloc (.cells (bdC b) 91)) 131 (rlC y); rw [World.size_alloc] at h; exact h⟩
 clear e0 a0 hr hy ht hlt
 go_enter Tryz.func53, Tryz.ntmps53
 go_wp2_with fail
 have y0 := HZ.out.2.at 0 (v := vi y.fr) rfl
 have y1 := HZ.out.2.at 1 (v := vi y.co) rfl
 have y2 := HZ.out.2.at 2 (v := vi y.wa) rfl
 exact bodyPost_ret (v := .agg #[vi y.fr, vi y.co, vi y.wa]) (by simp [results, Tryz.results53, go_sem, y0, y1, y2]) rfl ⟨rfl, HZ.out.1⟩
def fitsA (bs : List Bd) (tl : List Rl) : Bool := decide (tl.length = bs.length) && goodB bs.length (fun i => fitB (bs.getD i zeroBd) (tl.getD i ⟨0, 0, 0⟩))
theorem fit_rlB {b : Bd} {x : Rl} (hb : bdB b = true) (h : fitB b x = true) : rlB x = true := by
 obtain ⟨_, _, h3, h4, h5⟩ := bdB_parts hb
 simp only [fitB, inB, Bool.and_eq_true, decide_eq_true_eq] at h
 simp only [rlB, inB, Bool.and_eq_true, decide_eq_true_eq]
 omega
theorem fitsA_iff {bs : List Bd} {tl : List Rl} : fitsA bs tl = true ↔ tl.length = bs.length /\ ∀ i, i < bs.length -> fitB (bs.getD i zeroBd) (tl.getD i ⟨0, 0, 0⟩) = true := by
 unfold fitsA
 rw [Bool.and_eq_true, decide_eq_true_eq, goodB_iff]
def facO (s : Sd) (frm : Int) (l : List Int) (tl : List Rl) : Int × Int := if checkUN s frm l = 0 then (if fitsA (bedsU s frm l) tl then (if dK (bedsU s frm l) (bedsU s frm l).length < 1 then (0, 7) else (factorN (hK (bedsU s frm l) (fun i => tl.getD i ⟨0, 0, 0⟩) (bedsU s frm l).length) (dK (bedsU s frm l) (bedsU s frm l).length), 0)) else (0, 9)) else (0, checkUN s frm l)
set_option maxRecDepth 100000 in
set_option maxHeartbeats 2000000 in
theorem factorP_any (s : Sm) (u : Su) (tl : List Rl) (TA : Option Addr) (tc : Nat) (w : World) (hok : SmOk s w) (few : SmFew s) (hu : SuOk u w) (hul : u.beds.length <= 1000) (htl : tl.length <= 1000) (htr : Row rlL 3 w w.heap.size TA tl) : Calls Tryz.prog 20 #[smV s, suV u, .slice TA tl.length tc] w fun e w' => e = .returned (.tuple #[vi (facO s.sd u.frm u.beds tl).1, vi (facO s.sd u.frm u.beds tl).2]) /\ newer w w' := by
 have hnw : newer w (((w.alloc (.cells (smC s) 48)).alloc (.cells (suC u) 72)).alloc (.cells #[.slice TA tl.length tc] 74)) := newer_trans (newer_trans (newer_allocH _ _) (newer_allocH _ _)) (newer_allocH _ _)
 have e3 := newer_allocH ((w.alloc (.cells (smC s) 48)).alloc (.cells (suC u) 72)) (.cells #[.slice TA tl.length tc] 74)
 have hxb0 := (Whole.made w 48 (smC s)).alloc (.cells (suC u) 72)
 have hub0 := Whole.made (w.alloc (.cells (smC s) 48)) 72 (suC u)
 have htb := Whole.made ((w.alloc (.cells (smC s) 48)).alloc (.cells (suC u) 72)) 74 #[.slice TA tl.length tc]
 rw [World.size_alloc] at hub0
 rw [World.size_alloc, World.size_alloc] at htb
 have hxb := hxb0.below e3 hxb0.lt
 have hub := hub0.below e3 hub0.lt
 have H0 := Lib.hid (And.intro hnw (And.intro hxb (And.intro hub htb)))
 have HCU := Lib.hid (checkU_any s u _ (hok.next hnw) few (hu.next hnw) hul)
 have x0 := hxb.at 0 (v := .slice s.a s.cs.length s.c) rfl
 have x1 := hxb.at 1 (v := vi s.least) rfl
 have u0 := hub.at 0 (v := vi u.frm) rfl
 have u1 := hub.at 1 (v := .slice u.a u.beds.length u.c) rfl
 have HOK := Lib.hid (And.intro hok (And.intro hu htr))
 have HZ : Hid (checkUN s.sd u.frm u.beds = 0 -> SdOk s.sd /\ surfB s.sd u.frm u.beds = true) := Lib.hid checkU_zero
 obtain ⟨R, hR⟩ : ∃ R, R = facO s.sd u.frm u.beds tl := ⟨_, rfl⟩
 rw [<- hR]
 unfold facO at hR
 obtain ⟨a, ha⟩ : ∃ a, a = checkUN s.sd u.frm u.beds := ⟨_, rfl⟩
 rw [<- ha] at HCU HZ hR
 clear ha hok few hu hul hnw hxb hub hxb0 hub0 htb e3 htr
 by_cases hz : a = 0
 ·subst hz
  obtain ⟨hs, hsf⟩ := HZ.out rfl
  obtain ⟨p1, p2, p3⟩ := surfB_parts hs hsf
  rw [if_pos rfl] at hR
  obtain ⟨k0, hk0⟩ : ∃ k0, k0 = u.frm.toNat := ⟨_, rfl⟩
  obtain ⟨l, hl⟩ : ∃ l, l = u.beds.map Int.toNat := ⟨_, rfl⟩
  rw [<- hk0] at p1 p3
  rw [<- hl] at p2 p3
  rw [sd_len] at p3
  have HBE : Hid (∀ W, newer w W -> Calls Tryz.prog 50 #[smV s, suV u] W fun e w' => ∃ A c, e = .returned (.slice A l.length c) /\ w'.ownsRow W.heap.size 91 8 (.slice A l.length c) l.length ((bedsL s.sd.cols k0 l).flatMap bdL) /\ newer W w') := Lib.hid (fun W hW => bedsU_any s u k0 l W (HOK.out.1.next hW) hs (HOK.out.2.1.next hW) p1 p2 p3)
  have hll : l.length <= 12 := by have h1 := p3.2.1; have h2 := hs.cols; rw [sd_len] at h2; omega
  have hbo := bedsL_ok hs p3.2.2 p3.2.1
  have eb : bedsU s.sd u.frm u.beds = bedsL s.sd.cols k0 l := by unfold bedsU; rw [<- hk0, <- hl]
  rw [eb] at hR
  have hbl := bedsL_len s.sd.cols l k0
  obtain ⟨bs, hbs⟩ : ∃ bs, bs = bedsL s.sd.cols k0 l := ⟨_, rfl⟩
  rw [<- hbs] at HBE hbo hbl hR
  rw [<- hbl] at HBE
  have hbn : bs.length <= 12 := by omega
  have HBO := Lib.hid hbo
  have HRR := Lib.hid hR
  clear hR hs hsf p1 p2 p3 hk0 hl hll eb hbl hbs hbo HZ
  go_enter Tryz.func20, Tryz.ntmps20
  go_wp2_with fail
  refine (HCU.out).mono ?_
  rintro e w1 ⟨rfl, hb⟩
  have H1 := Lib.hid (And.intro (newer_trans H0.out.1 hb) (And.intro (H0.out.2.1.below hb H0.out.2.1.lt) (And.intro (H0.out.2.2.1.below hb H0.out.2.2.1.lt) (H0.out.2.2.2.below hb H0.out.2.2.2.lt))))
  clear H0 hb HCU x0 x1 u0 u1
  have x0 := H1.out.2.1.at 0 (v := .slice s.a s.cs.length s.c) rfl
  have x1 := H1.out.2.1.at 1 (v := vi s.least) rfl
  have u0 := H1.out.2.2.1.at 0 (v := vi u.frm) rfl
  have u1 := H1.out.2.2.1.at 1 (v := .slice u.a u.beds.length u.c) rfl
  go_wp2_with fail
  refine (HBE.out _ H1.out.1).mono ?_
  rintro e w2 ⟨A, c, rfl, ho, hb⟩
  have hrow := row_of_own (enc := bdL) (size := 8) (by omega) (fun _ => rfl) ho
  have H2 := Lib.hid (And.intro (newer_trans H1.out.1 hb) (And.intro (H1.out.2.2.2.below hb H1.out.2.2.2.lt) hrow))
  have HX2 := Lib.hid (And.intro (newer_trans H1.out.1 hb) (H1.out.2.2.2.below hb H1.out.2.2.2.lt))
  clear H1 hb HBE x0 x1 u0 u1 ho hrow
  have t0 := H2.out.2.1.at 0 (v := .slice TA tl.length tc) rfl
  by_cases hlen : tl.length = bs.length
  case neg =>
   have hb0 : ((tl.length : Int) == (bs.length : Int)) = false := by simp; omega
   have hb1 : ((tl.length : Int) != (bs.length : Int)) = true := by simp; omega
   have hb2 : (tl.length == bs.length) = false := by simpa using hlen
   have hb3 : (tl.length != bs.length) = true := by simpa using hlen
   have HE : Hid (R = (0, 9)) := Lib.hid (by
    rw [HRR.out, if_neg]
    intro h
    exact hlen (fitsA_iff.1 h).1)
   clear hlen
   go_wp2_with fail
   exact bodyPost_ret (v := .tuple #[vi 0, vi 9]) (by simp [results, Tryz.results20, go_sem]) rfl ⟨by rw [HE.out], H2.out.1⟩
  case pos =>
  have HLN := Lib.hid hlen
  have HFL : Hid (¬ (∀ i, i < bs.length -> fitB (bs.getD i zeroBd) (tl.getD i ⟨0, 0, 0⟩) = true) -> R = (0, 9)) := Lib.hid (fun h => by
   rw [HRR.out, if_neg]
   intro h2
   exact h (fitsA_iff.1 h2).2)
  rw [hlen] at t0
  have hq0 : ((bs.length : Int) == (bs.length : Int)) = true := by simp
  have hq1 : ((bs.length : Int) != (bs.length : Int)) = false := by simp
  clear hlen
  go_wp2_with fail
  go_loopw [30] (fun s30 wr => ∃ k : Nat, s30 = vi k /\ k <= bs.length /\ (∀ i, i < k -> fitB (bs.getD i zeroBd) (tl.getD i ⟨0, 0, 0⟩) = true) /\ newer w wr /\ Whole wr (w.heap.size + 1 + 1) 74 #[.slice TA tl.length tc] /\ Row bdL 8 wr wr.heap.size A bs) (fun s30 _ => bs.length - (intOf s30).toNat)
  case atStart => exact ⟨0, rfl, Nat.zero_le _, fun i h => absurd h (by omega), H2.out.1, H2.out.2.1, H2.out.2.2⟩
  case round =>
   obtain ⟨k, rfl, hk, hfit, hn, htb, hrow⟩ := hrel
   clear H2 HX2 t0 hq0 hq1
   have HFI := Lib.hid hfit
   have HJ := Lib.hid (And.intro hn (And.intro htb hrow))
   clear hfit hn htb hrow
   by_cases hlt : k < bs.length
   ·obtain ⟨bd, hbd⟩ := get_of_lt hlt
    obtain ⟨y, hy⟩ := get_of_lt (l := tl) (k := k) (by rw [HLN.out]; exact hlt)
    obtain ⟨b4, o4, rfl, _, d0, d1, d2, d3, d4, d5, d6, d7⟩ := row8 HJ.out.2.2 hbd
    have hge : bs.getD k zeroBd = bd := by simp [List.getD, hbd]
    have hgy : tl.getD k ⟨0, 0, 0⟩ = y := by simp [List.getD, hy]
    have HFK : Hid (fitB (bs.getD k zeroBd) (tl.getD k ⟨0, 0, 0⟩) = (inB y.fr bd.fr.lo bd.fr.hi && inB y.co bd.co.lo bd.co.hi && inB y.wa bd.wa.lo bd.wa.hi)) := Lib.hid (by rw [hge, hgy]; rfl)
    obtain ⟨bt, ot, eT, _, r0, r1, r2⟩ := row3 (HOK.out.2.2.below HJ.out.1) hy
    have hkb : (k : Int) < bs.length := by omega
    have hkt : (k : Int) < tl.length := by rw [HLN.out]; exact hkb
    have HET := Lib.hid eT
    have HRW := Lib.hid (And.intro r0 (And.intro r1 r2))
    have e5 := newer_allocH wr (.cells (bdC bd) 91)
    have HE4 := Lib.hid (And.intro (newer_trans HJ.out.1 e5) (And.intro (HJ.out.2.1.below e5 HJ.out.2.1.lt) (And.intro ((HJ.out.2.2.below e5).more e5.size) (And.intro (Whole.made wr 91 (bdC bd)) (And.intro (keep_cell r0 e5) (And.intro (keep_cell r1 e5) (keep_cell r2 e5)))))))
    clear hbd hy hge hgy e5 r0 r1 r2 eT HJ HRW
    go_upto_region 10 with fail
    refine genQ (fun X => newer w X /\ Whole X (w.heap.size + 1 + 1) 74 #[.slice TA tl.length tc] /\ Row bdL 8 X X.heap.size (some ⟨b4, o4, none⟩) bs /\ Whole X wr.heap.size 91 (bdC bd) /\ X.cell? ⟨bt, ot + k * 3, none⟩ = some (vi y.fr) /\ X.cell? ⟨bt, ot + k * 3 + 1, none⟩ = some (vi y.co) /\ X.cell? ⟨bt, ot + k * 3 + 2, none⟩ = some (vi y.wa)) HE4.out ?_
    clear HE4 d0 d1 d2 d3 d4 d5 d6 d7
    obtain ⟨bb, hbb⟩ : ∃ bb, bb = wr.heap.size := ⟨_, rfl⟩
    rw [<- hbb]
    rintro w5 ⟨p1, p2, p3, p4, r0, r1, r2⟩
    have z0 := p4.at 0 (v := vi bd.drive) rfl
    have z1 := p4.at 1 (v := vi bd.normal) rfl
    have z2 := p4.at 2 (v := vi bd.fr.lo) rfl
    have z3 := p4.at 3 (v := vi bd.fr.hi) rfl
    have z4 := p4.at 4 (v := vi bd.co.lo) rfl
    have z5 := p4.at 5 (v := vi bd.co.hi) rfl
    have z6 := p4.at 6 (v := vi bd.wa.lo) rfl
    have z7 := p4.at 7 (v := vi bd.wa.hi) rfl
    have t0 := p2.at 0 (v := .slice TA tl.length tc) rfl
    rw [HET.out] at t0
    have HE5 := Lib.hid (And.intro p1 (And.intro p2 p3))
    have HH1 := Lib.hid (fun W => has_any bd.fr y.fr W)
    have HH2 := Lib.hid (fun W => has_any bd.co y.co W)
    have HH3 := Lib.hid (fun W => has_any bd.wa y.wa W)
    obtain ⟨q1, hq1⟩ : ∃ q, q = inB y.fr bd.fr.lo bd.fr.hi := ⟨_, rfl⟩
    obtain ⟨q2, hq2⟩ : ∃ q, q = inB y.co bd.co.lo bd.co.hi := ⟨_, rfl⟩
    obtain ⟨q3, hq3⟩ : ∃ q, q = inB y.wa bd.wa.lo bd.wa.hi := ⟨_, rfl⟩
    rw [<- hq1, <- hq2, <- hq3] at HFK
    rw [<- hq1] at HH1
    rw [<- hq2] at HH2
    rw [<- hq3] at HH3
    clear p1 p2 p3 p4 hbb hq1 hq2 hq3
    cases q1 with
    | false =>
     refine wp_words (by kernel_rfl) (region_told_u 30 (by kernel_rfl) (by kernel_rfl) [false, false, false, false, false, false, false, false, false, false, true, true, true, true, true, true, true, true, true, false, false, true, true, true, true, true, true, true, true, true] (fun W => Below w5.heap.size w5 W) newer [vIs (.pointer (some ⟨bb, 2, none⟩)), vIs (rgV bd.fr), vIs (.slice (some ⟨bt, ot, none⟩) tl.length tc), vIs (vi k), vIs (.pointer (some ⟨bt, ot + k * 3, none⟩)), vIs (.pointer (some ⟨bt, ot + k * 3, none⟩)), vIs (vi y.fr), vIs (.bool false), vIs (.bool true), vIs (.bool true), vIs (undef), vIs (undef), vIs (undef), vIs (undef), vIs (undef), vIs (undef), vIs (undef), vIs (undef), vIs (undef), vIs (.bool true), vIs (.bool true), vIs (undef), vIs (undef), vIs (undef), vIs (undef), vIs (undef), vIs (undef), vIs (undef), vIs (undef), vIs (undef)] (by repeat' first | refine And.intro ?_ ?_ | exact trivial | exact rfl | (intro v W h; obtain rfl : v = _ := h; first | rfl | (simp; done) | (simp [undef]; done))) (by repeat' first | refine And.intro ?_ ?_ | exact trivial | exact (fun h => Bool.noConfusion (show false = true from h)) | exact (fun _ _ => rfl)) (fun h k => newer_trans h k) (pickD_stable _ (by repeat' first | refine And.intro ?_ ?_ | exact trivial | exact vIs_st)) (Below.refl _ w5).drew (Below.refl _ _) ?_ ?_)
     ·refine ⟨.inr ?_, .inr ?_, .inr ?_, .inr ?_, .inr ?_, .inr ?_, .inr ?_, .inr ?_, .inr ?_, .inr ?_, .inl rfl, .inl rfl, .inl rfl, .inl rfl, .inl rfl, .inl rfl, .inl rfl, .inl rfl, .inl rfl, .inr ?_, .inr ?_, .inl rfl, .inl rfl, .inl rfl, .inl rfl, .inl rfl, .inl rfl, .inl rfl, .inl rfl, .inl rfl, trivial⟩
      ·intro a W hG hR hO hp; have h11 := hO.slot 11 (by kernel_rfl); refine wp_yields (v := .pointer (some ⟨bb, 2, none⟩)) ?_ ⟨_, rfl, rfl, Below.refl _ _, hG⟩; simp [slotOf] at h11; simp [execOp, go_sem, h11]
      ·intro a W hG hR hO hp; have h35 : slotOf a 35 = .pointer (some ⟨bb, 2, none⟩) := hp.1; have c0 := keep_cell z2 hG; have c1 := keep_cell z3 hG; refine wp_yields (v := rgV bd.fr) ?_ ⟨_, rfl, rfl, Below.refl _ _, hG⟩; simp [slotOf] at h35; simp [execOp, go_sem, h35, c0, c1]
      ·intro a W hG hR hO hp; have h5 := hO.slot 5 (by kernel_rfl); have c0 := keep_cell t0 hG; refine wp_yields (v := .slice (some ⟨bt, ot, none⟩) tl.length tc) ?_ ⟨_, rfl, rfl, Below.refl _ _, hG⟩; simp [slotOf] at h5; simp [execOp, go_sem, h5, c0]
      ·intro a W hG hR hO hp; have h10 := hO.slot 10 (by kernel_rfl); refine wp_yields (v := vi k) ?_ ⟨_, rfl, rfl, Below.refl _ _, hG⟩; simp [slotOf] at h10; simp [execOp, go_sem, h10]
      ·intro a W hG hR hO hp; have h37 : slotOf a 37 = .slice (some ⟨bt, ot, none⟩) tl.length tc := hp.1; have h38 : slotOf a 38 = vi k := hp.2.1; refine wp_yields (v := .pointer (some ⟨bt, ot + k * 3, none⟩)) ?_ ⟨_, rfl, rfl, Below.refl _ _, hG⟩; simp [slotOf] at h37 h38; simp [execOp, go_sem, h37, h38, hkt]
      ·intro a W hG hR hO hp; have h39 : slotOf a 39 = .pointer (some ⟨bt, ot + k * 3, none⟩) := hp.1; refine wp_yields (v := .pointer (some ⟨bt, ot + k * 3, none⟩)) ?_ ⟨_, rfl, rfl, Below.refl _ _, hG⟩; simp [slotOf] at h39; simp [execOp, go_sem, h39]
      ·intro a W hG hR hO hp; have h40 : slotOf a 40 = .pointer (some ⟨bt, ot + k * 3, none⟩) := hp.1; have c0 := keep_cell r0 hG; refine wp_yields (v := vi y.fr) ?_ ⟨_, rfl, rfl, Below.refl _ _, hG⟩; simp [slotOf] at h40; simp [execOp, go_sem, h40, c0]
      ·intro a W hG hR hO hp
       have h36 : slotOf a 36 = rgV bd.fr := hp.1
       have h41 : slotOf a 41 = vi y.fr := hp.2.1
       refine wp_enters (f := 51) (args := #[rgV bd.fr, vi y.fr]) ?_ ((HH1.out W).mono ?_)
       ·simp [slotOf] at h36 h41
        simp [go_sem, h36, h41]
       ·rintro e w' ⟨rfl, hb⟩
        exact ⟨_, rfl, _, rfl, rfl, hb, below_next hG hb⟩
      ·intro a W hG hR hO hp; have h42 : slotOf a 42 = .bool false := hp.1; refine wp_yields (v := .bool true) ?_ ⟨_, rfl, rfl, Below.refl _ _, hG⟩; simp [slotOf] at h42; simp [execOp, go_sem, h42]
      ·intro a W hG hR hO hp; have h43 : slotOf a 43 = .bool true := hp.1; refine wp_yields (v := .bool true) ?_ ⟨_, rfl, rfl, Below.refl _ _, hG⟩; simp [slotOf] at h43; simp [execOp, go_sem, h43]
      ·intro a W hG hR hO hp; have h44 : slotOf a 44 = .bool true := hp.1; have h53 : slotOf a 53 = undef := hp.2.1; refine wp_yields (v := .bool true) ?_ ⟨_, rfl, rfl, Below.refl _ _, hG⟩; simp [slotOf] at h44 h53; simp [execOp, go_sem, h44, h53]
      ·intro a W hG hR hO hp; have h54 : slotOf a 54 = .bool true := hp.1; refine wp_yields (v := .bool true) ?_ ⟨_, rfl, rfl, Below.refl _ _, hG⟩; simp [slotOf] at h54; simp [execOp, go_sem, h54]
     ·intro wz hG hR
      rintro _ rfl _ rfl _ rfl _ rfl _ rfl _ rfl _ rfl _ rfl _ rfl _ rfl _ rfl _ rfl _ rfl _ rfl _ rfl _ rfl _ rfl _ rfl _ rfl _ rfl _ rfl _ rfl _ rfl _ rfl _ rfl _ rfl _ rfl _ rfl _ rfl _ rfl
      change wpList _ _ _ _ _ _
      simp only [Act.put, List.setIfInBounds_toArray, List.set_cons_zero, List.set_cons_succ, List.drop_succ_cons, List.drop_zero]
      have HN := Lib.hid (newer_trans HE5.out.1 hG)
      have HFF := Lib.hid (HFL.out (fun h => by have h1 := h k hlt; rw [HFK.out] at h1; cases h1))
      clear hG hR HE5 t0 r0 r1 r2 z0 z1 z2 z3 z4 z5 z6 z7
      go_wp2_with fail
      exact bodyPost_ret (v := .tuple #[vi 0, vi 9]) (by simp [results, Tryz.results20, go_sem]) rfl ⟨by rw [HFF.out], HN.out⟩
    | true =>
    cases q2 with
    | false =>
     refine wp_words (by kernel_rfl) (region_told_u 30 (by kernel_rfl) (by kernel_rfl) [false, false, false, false, false, false, false, false, false, false, false, false, false, false, false, false, false, false, false, false, false, true, true, true, true, true, true, true, true, true] (fun W => Below w5.heap.size w5 W) newer [vIs (.pointer (some ⟨bb, 2, none⟩)), vIs (rgV bd.fr), vIs (.slice (some ⟨bt, ot, none⟩) tl.length tc), vIs (vi k), vIs (.pointer (some ⟨bt, ot + k * 3, none⟩)), vIs (.pointer (some ⟨bt, ot + k * 3, none⟩)), vIs (vi y.fr), vIs (.bool true), vIs (.bool false), vIs (.bool false), vIs (.pointer (some ⟨bb, 4, none⟩)), vIs (rgV bd.co), vIs (.slice (some ⟨bt, ot, none⟩) tl.length tc), vIs (vi k), vIs (.pointer (some ⟨bt, ot + k * 3, none⟩)), vIs (.pointer (some ⟨bt, ot + k * 3 + 1, none⟩)), vIs (vi y.co), vIs (.bool false), vIs (.bool true), vIs (.bool true), vIs (.bool true), vIs (undef), vIs (undef), vIs (undef), vIs (undef), vIs (undef), vIs (undef), vIs (undef), vIs (undef), vIs (undef)] (by repeat' first | refine And.intro ?_ ?_ | exact trivial | exact rfl | (intro v W h; obtain rfl : v = _ := h; first | rfl | (simp; done) | (simp [undef]; done))) (by repeat' first | refine And.intro ?_ ?_ | exact trivial | exact (fun h => Bool.noConfusion (show false = true from h)) | exact (fun _ _ => rfl)) (fun h k => newer_trans h k) (pickD_stable _ (by repeat' first | refine And.intro ?_ ?_ | exact trivial | exact vIs_st)) (Below.refl _ w5).drew (Below.refl _ _) ?_ ?_)
     ·refine ⟨.inr ?_, .inr ?_, .inr ?_, .inr ?_, .inr ?_, .inr ?_, .inr ?_, .inr ?_, .inr ?_, .inr ?_, .inr ?_, .inr ?_, .inr ?_, .inr ?_, .inr ?_, .inr ?_, .inr ?_, .inr ?_, .inr ?_, .inr ?_, .inr ?_, .inl rfl, .inl rfl, .inl rfl, .inl rfl, .inl rfl, .inl rfl, .inl rfl, .inl rfl, .inl rfl, trivial⟩
      ·intro a W hG hR hO hp; have h11 := hO.slot 11 (by kernel_rfl); refine wp_yields (v := .pointer (some ⟨bb, 2, none⟩)) ?_ ⟨_, rfl, rfl, Below.refl _ _, hG⟩; simp [slotOf] at h11; simp [execOp, go_sem, h11]
      ·intro a W hG hR hO hp; have h35 : slotOf a 35 = .pointer (some ⟨bb, 2, none⟩) := hp.1; have c0 := keep_cell z2 hG; have c1 := keep_cell z3 hG; refine wp_yields (v := rgV bd.fr) ?_ ⟨_, rfl, rfl, Below.refl _ _, hG⟩; simp [slotOf] at h35; simp [execOp, go_sem, h35, c0, c1]
      ·intro a W hG hR hO hp; have h5 := hO.slot 5 (by kernel_rfl); have c0 := keep_cell t0 hG; refine wp_yields (v := .slice (some ⟨bt, ot, none⟩) tl.length tc) ?_ ⟨_, rfl, rfl, Below.refl _ _, hG⟩; simp [slotOf] at h5; simp [execOp, go_sem, h5, c0]
      ·intro a W hG hR hO hp; have h10 := hO.slot 10 (by kernel_rfl); refine wp_yields (v := vi k) ?_ ⟨_, rfl, rfl, Below.refl _ _, hG⟩; simp [slotOf] at h10; simp [execOp, go_sem, h10]
      ·intro a W hG hR hO hp; have h37 : slotOf a 37 = .slice (some ⟨bt, ot, none⟩) tl.length tc := hp.1; have h38 : slotOf a 38 = vi k := hp.2.1; refine wp_yields (v := .pointer (some ⟨bt, ot + k * 3, none⟩)) ?_ ⟨_, rfl, rfl, Below.refl _ _, hG⟩; simp [slotOf] at h37 h38; simp [execOp, go_sem, h37, h38, hkt]
      ·intro a W hG hR hO hp; have h39 : slotOf a 39 = .pointer (some ⟨bt, ot + k * 3, none⟩) := hp.1; refine wp_yields (v := .pointer (some ⟨bt, ot + k * 3, none⟩)) ?_ ⟨_, rfl, rfl, Below.refl _ _, hG⟩; simp [slotOf] at h39; simp [execOp, go_sem, h39]
      ·intro a W hG hR hO hp; have h40 : slotOf a 40 = .pointer (some ⟨bt, ot + k * 3, none⟩) := hp.1; have c0 := keep_cell r0 hG; refine wp_yields (v := vi y.fr) ?_ ⟨_, rfl, rfl, Below.refl _ _, hG⟩; simp [slotOf] at h40; simp [execOp, go_sem, h40, c0]
      ·intro a W hG hR hO hp
       have h36 : slotOf a 36 = rgV bd.fr := hp.1
       have h41 : slotOf a 41 = vi y.fr := hp.2.1
       refine wp_enters (f := 51) (args := #[rgV bd.fr, vi y.fr]) ?_ ((HH1.out W).mono ?_)
       ·simp [slotOf] at h36 h41
        simp [go_sem, h36, h41]
       ·rintro e w' ⟨rfl, hb⟩
        exact ⟨_, rfl, _, rfl, rfl, hb, below_next hG hb⟩
      ·intro a W hG hR hO hp; have h42 : slotOf a 42 = .bool true := hp.1; refine wp_yields (v := .bool false) ?_ ⟨_, rfl, rfl, Below.refl _ _, hG⟩; simp [slotOf] at h42; simp [execOp, go_sem, h42]
      ·intro a W hG hR hO hp; have h43 : slotOf a 43 = .bool false := hp.1; refine wp_yields (v := .bool false) ?_ ⟨_, rfl, rfl, Below.refl _ _, hG⟩; simp [slotOf] at h43; simp [execOp, go_sem, h43]
      ·intro a W hG hR hO hp; have h11 := hO.slot 11 (by kernel_rfl); refine wp_yields (v := .pointer (some ⟨bb, 4, none⟩)) ?_ ⟨_, rfl, rfl, Below.refl _ _, hG⟩; simp [slotOf] at h11; simp [execOp, go_sem, h11]
      ·intro a W hG hR hO hp; have h45 : slotOf a 45 = .pointer (some ⟨bb, 4, none⟩) := hp.1; have c0 := keep_cell z4 hG; have c1 := keep_cell z5 hG; refine wp_yields (v := rgV bd.co) ?_ ⟨_, rfl, rfl, Below.refl _ _, hG⟩; simp [slotOf] at h45; simp [execOp, go_sem, h45, c0, c1]
      ·intro a W hG hR hO hp; have h5 := hO.slot 5 (by kernel_rfl); have c0 := keep_cell t0 hG; refine wp_yields (v := .slice (some ⟨bt, ot, none⟩) tl.length tc) ?_ ⟨_, rfl, rfl, Below.refl _ _, hG⟩; simp [slotOf] at h5; simp [execOp, go_sem, h5, c0]
      ·intro a W hG hR hO hp; have h10 := hO.slot 10 (by kernel_rfl); refine wp_yields (v := vi k) ?_ ⟨_, rfl, rfl, Below.refl _ _, hG⟩; simp [slotOf] at h10; simp [execOp, go_sem, h10]
      ·intro a W hG hR hO hp; have h47 : slotOf a 47 = .slice (some ⟨bt, ot, none⟩) tl.length tc := hp.1; have h48 : slotOf a 48 = vi k := hp.2.1; refine wp_yields (v := .pointer (some ⟨bt, ot + k * 3, none⟩)) ?_ ⟨_, rfl, rfl, Below.refl _ _, hG⟩; simp [slotOf] at h47 h48; simp [execOp, go_sem, h47, h48, hkt]
      ·intro a W hG hR hO hp; have h49 : slotOf a 49 = .pointer (some ⟨bt, ot + k * 3, none⟩) := hp.1; refine wp_yields (v := .pointer (some ⟨bt, ot + k * 3 + 1, none⟩)) ?_ ⟨_, rfl, rfl, Below.refl _ _, hG⟩; simp [slotOf] at h49; simp [execOp, go_sem, h49]
      ·intro a W hG hR hO hp; have h50 : slotOf a 50 = .pointer (some ⟨bt, ot + k * 3 + 1, none⟩) := hp.1; have c0 := keep_cell r1 hG; refine wp_yields (v := vi y.co) ?_ ⟨_, rfl, rfl, Below.refl _ _, hG⟩; simp [slotOf] at h50; simp [execOp, go_sem, h50, c0]
      ·intro a W hG hR hO hp
       have h46 : slotOf a 46 = rgV bd.co := hp.1
       have h51 : slotOf a 51 = vi y.co := hp.2.1
       refine wp_enters (f := 51) (args := #[rgV bd.co, vi y.co]) ?_ ((HH2.out W).mono ?_)
       ·simp [slotOf] at h46 h51
        simp [go_sem, h46, h51]
       ·rintro e w' ⟨rfl, hb⟩
        exact ⟨_, rfl, _, rfl, rfl, hb, below_next hG hb⟩
      ·intro a W hG hR hO hp; have h52 : slotOf a 52 = .bool false := hp.1; refine wp_yields (v := .bool true) ?_ ⟨_, rfl, rfl, Below.refl _ _, hG⟩; simp [slotOf] at h52; simp [execOp, go_sem, h52]
      ·intro a W hG hR hO hp; have h44 : slotOf a 44 = .bool false := hp.1; have h53 : slotOf a 53 = .bool true := hp.2.1; refine wp_yields (v := .bool true) ?_ ⟨_, rfl, rfl, Below.refl _ _, hG⟩; simp [slotOf] at h44 h53; simp [execOp, go_sem, h44, h53]
      ·intro a W hG hR hO hp; have h54 : slotOf a 54 = .bool true := hp.1; refine wp_yields (v := .bool true) ?_ ⟨_, rfl, rfl, Below.refl _ _, hG⟩; simp [slotOf] at h54; simp [execOp, go_sem, h54]
     ·intro wz hG hR
      rintro _ rfl _ rfl _ rfl _ rfl _ rfl _ rfl _ rfl _ rfl _ rfl _ rfl _ rfl _ rfl _ rfl _ rfl _ rfl _ rfl _ rfl _ rfl _ rfl _ rfl _ rfl _ rfl _ rfl _ rfl _ rfl _ rfl _ rfl _ rfl _ rfl _ rfl
      change wpList _ _ _ _ _ _
      simp only [Act.put, List.setIfInBounds_toArray, List.set_cons_zero, List.set_cons_succ, List.drop_succ_cons, List.drop_zero]
      have HN := Lib.hid (newer_trans HE5.out.1 hG)
      have HFF := Lib.hid (HFL.out (fun h => by have h1 := h k hlt; rw [HFK.out] at h1; cases h1))
      clear hG hR HE5 t0 r0 r1 r2 z0 z1 z2 z3 z4 z5 z6 z7
      go_wp2_with fail
      exact bodyPost_ret (v := .tuple #[vi 0, vi 9]) (by simp [results, Tryz.results20, go_sem]) rfl ⟨by rw [HFF.out], HN.out⟩
    | true =>
    cases q3 with
    | false =>
     refine wp_words (by kernel_rfl) (region_told_u 30 (by kernel_rfl) (by kernel_rfl) [false, false, false, false, false, false, false, false, false, false, false, false, false, false, false, false, false, false, false, false, false, false, false, false, false, false, false, false, false, false] (fun W => Below w5.heap.size w5 W) newer [vIs (.pointer (some ⟨bb, 2, none⟩)), vIs (rgV bd.fr), vIs (.slice (some ⟨bt, ot, none⟩) tl.length tc), vIs (vi k), vIs (.pointer (some ⟨bt, ot + k * 3, none⟩)), vIs (.pointer (some ⟨bt, ot + k * 3, none⟩)), vIs (vi y.fr), vIs (.bool true), vIs (.bool false), vIs (.bool false), vIs (.pointer (some ⟨bb, 4, none⟩)), vIs (rgV bd.co), vIs (.slice (some ⟨bt, ot, none⟩) tl.length tc), vIs (vi k), vIs (.pointer (some ⟨bt, ot + k * 3, none⟩)), vIs (.pointer (some ⟨bt, ot + k * 3 + 1, none⟩)), vIs (vi y.co), vIs (.bool true), vIs (.bool false), vIs (.bool false), vIs (.bool false), vIs (.pointer (some ⟨bb, 6, none⟩)), vIs (rgV bd.wa), vIs (.slice (some ⟨bt, ot, none⟩) tl.length tc), vIs (vi k), vIs (.pointer (some ⟨bt, ot + k * 3, none⟩)), vIs (.pointer (some ⟨bt, ot + k * 3 + 2, none⟩)), vIs (vi y.wa), vIs (.bool false), vIs (.bool true)] (by repeat' first | refine And.intro ?_ ?_ | exact trivial | exact rfl | (intro v W h; obtain rfl : v = _ := h; first | rfl | (simp; done) | (simp [undef]; done))) (by repeat' first | refine And.intro ?_ ?_ | exact trivial | exact (fun h => Bool.noConfusion (show false = true from h)) | exact (fun _ _ => rfl)) (fun h k => newer_trans h k) (pickD_stable _ (by repeat' first | refine And.intro ?_ ?_ | exact trivial | exact vIs_st)) (Below.refl _ w5).drew (Below.refl _ _) ?_ ?_)
     ·refine ⟨.inr ?_, .inr ?_, .inr ?_, .inr ?_, .inr ?_, .inr ?_, .inr ?_, .inr ?_, .inr ?_, .inr ?_, .inr ?_, .inr ?_, .inr ?_, .inr ?_, .inr ?_, .inr ?_, .inr ?_, .inr ?_, .inr ?_, .inr ?_, .inr ?_, .inr ?_, .inr ?_, .inr ?_, .inr ?_, .inr ?_, .inr ?_, .inr ?_, .inr ?_, .inr ?_, trivial⟩
      ·intro a W hG hR hO hp; have h11 := hO.slot 11 (by kernel_rfl); refine wp_yields (v := .pointer (some ⟨bb, 2, none⟩)) ?_ ⟨_, rfl, rfl, Below.refl _ _, hG⟩; simp [slotOf] at h11; simp [execOp, go_sem, h11]
      ·intro a W hG hR hO hp; have h35 : slotOf a 35 = .pointer (some ⟨bb, 2, none⟩) := hp.1; have c0 := keep_cell z2 hG; have c1 := keep_cell z3 hG; refine wp_yields (v := rgV bd.fr) ?_ ⟨_, rfl, rfl, Below.refl _ _, hG⟩; simp [slotOf] at h35; simp [execOp, go_sem, h35, c0, c1]
      ·intro a W hG hR hO hp; have h5 := hO.slot 5 (by kernel_rfl); have c0 := keep_cell t0 hG; refine wp_yields (v := .slice (some ⟨bt, ot, none⟩) tl.length tc) ?_ ⟨_, rfl, rfl, Below.refl _ _, hG⟩; simp [slotOf] at h5; simp [execOp, go_sem, h5, c0]
      ·intro a W hG hR hO hp; have h10 := hO.slot 10 (by kernel_rfl); refine wp_yields (v := vi k) ?_ ⟨_, rfl, rfl, Below.refl _ _, hG⟩; simp [slotOf] at h10; simp [execOp, go_sem, h10]
      ·intro a W hG hR hO hp; have h37 : slotOf a 37 = .slice (some ⟨bt, ot, none⟩) tl.length tc := hp.1; have h38 : slotOf a 38 = vi k := hp.2.1; refine wp_yields (v := .pointer (some ⟨bt, ot + k * 3, none⟩)) ?_ ⟨_, rfl, rfl, Below.refl _ _, hG⟩; simp [slotOf] at h37 h38; simp [execOp, go_sem, h37, h38, hkt]
      ·intro a W hG hR hO hp; have h39 : slotOf a 39 = .pointer (some ⟨bt, ot + k * 3, none⟩) := hp.1; refine wp_yields (v := .pointer (some ⟨bt, ot + k * 3, none⟩)) ?_ ⟨_, rfl, rfl, Below.refl _ _, hG⟩; simp [slotOf] at h39; simp [execOp, go_sem, h39]
      ·intro a W hG hR hO hp; have h40 : slotOf a 40 = .pointer (some ⟨bt, ot + k * 3, none⟩) := hp.1; have c0 := keep_cell r0 hG; refine wp_yields (v := vi y.fr) ?_ ⟨_, rfl, rfl, Below.refl _ _, hG⟩; simp [slotOf] at h40; simp [execOp, go_sem, h40, c0]
      ·intro a W hG hR hO hp
       have h36 : slotOf a 36 = rgV bd.fr := hp.1
       have h41 : slotOf a 41 = vi y.fr := hp.2.1
       refine wp_enters (f := 51) (args := #[rgV bd.fr, vi y.fr]) ?_ ((HH1.out W).mono ?_)
       ·simp [slotOf] at h36 h41
        simp [go_sem, h36, h41]
       ·rintro e w' ⟨rfl, hb⟩
        exact ⟨_, rfl, _, rfl, rfl, hb, below_next hG hb⟩
      ·intro a W hG hR hO hp; have h42 : slotOf a 42 = .bool true := hp.1; refine wp_yields (v := .bool false) ?_ ⟨_, rfl, rfl, Below.refl _ _, hG⟩; simp [slotOf] at h42; simp [execOp, go_sem, h42]
      ·intro a W hG hR hO hp; have h43 : slotOf a 43 = .bool false := hp.1; refine wp_yields (v := .bool false) ?_ ⟨_, rfl, rfl, Below.refl _ _, hG⟩; simp [slotOf] at h43; simp [execOp, go_sem, h43]
      ·intro a W hG hR hO hp; have h11 := hO.slot 11 (by kernel_rfl); refine wp_yields (v := .pointer (some ⟨bb, 4, none⟩)) ?_ ⟨_, rfl, rfl, Below.refl _ _, hG⟩; simp [slotOf] at h11; simp [execOp, go_sem, h11]
      ·intro a W hG hR hO hp; have h45 : slotOf a 45 = .pointer (some ⟨bb, 4, none⟩) := hp.1; have c0 := keep_cell z4 hG; have c1 := keep_cell z5 hG; refine wp_yields (v := rgV bd.co) ?_ ⟨_, rfl, rfl, Below.refl _ _, hG⟩; simp [slotOf] at h45; simp [execOp, go_sem, h45, c0, c1]
      ·intro a W hG hR hO hp; have h5 := hO.slot 5 (by kernel_rfl); have c0 := keep_cell t0 hG; refine wp_yields (v := .slice (some ⟨bt, ot, none⟩) tl.length tc) ?_ ⟨_, rfl, rfl, Below.refl _ _, hG⟩; simp [slotOf] at h5; simp [execOp, go_sem, h5, c0]
      ·intro a W hG hR hO hp; have h10 := hO.slot 10 (by kernel_rfl); refine wp_yields (v := vi k) ?_ ⟨_, rfl, rfl, Below.refl _ _, hG⟩; simp [slotOf] at h10; simp [execOp, go_sem, h10]
      ·intro a W hG hR hO hp; have h47 : slotOf a 47 = .slice (some ⟨bt, ot, none⟩) tl.length tc := hp.1; have h48 : slotOf a 48 = vi k := hp.2.1; refine wp_yields (v := .pointer (some ⟨bt, ot + k * 3, none⟩)) ?_ ⟨_, rfl, rfl, Below.refl _ _, hG⟩; simp [slotOf] at h47 h48; simp [execOp, go_sem, h47, h48, hkt]
      ·intro a W hG hR hO hp; have h49 : slotOf a 49 = .pointer (some ⟨bt, ot + k * 3, none⟩) := hp.1; refine wp_yields (v := .pointer (some ⟨bt, ot + k * 3 + 1, none⟩)) ?_ ⟨_, rfl, rfl, Below.refl _ _, hG⟩; simp [slotOf] at h49; simp [execOp, go_sem, h49]
      ·intro a W hG hR hO hp; have h50 : slotOf a 50 = .pointer (some ⟨bt, ot + k * 3 + 1, none⟩) := hp.1; have c0 := keep_cell r1 hG; refine wp_yields (v := vi y.co) ?_ ⟨_, rfl, rfl, Below.refl _ _, hG⟩; simp [slotOf] at h50; simp [execOp, go_sem, h50, c0]
      ·intro a W hG hR hO hp
       have h46 : slotOf a 46 = rgV bd.co := hp.1
       have h51 : slotOf a 51 = vi y.co := hp.2.1
       refine wp_enters (f := 51) (args := #[rgV bd.co, vi y.co]) ?_ ((HH2.out W).mono ?_)
       ·simp [slotOf] at h46 h51
        simp [go_sem, h46, h51]
       ·rintro e w' ⟨rfl, hb⟩
        exact ⟨_, rfl, _, rfl, rfl, hb, below_next hG hb⟩
      ·intro a W hG hR hO hp; have h52 : slotOf a 52 = .bool true := hp.1; refine wp_yields (v := .bool false) ?_ ⟨_, rfl, rfl, Below.refl _ _, hG⟩; simp [slotOf] at h52; simp [execOp, go_sem, h52]
      ·intro a W hG hR hO hp; have h44 : slotOf a 44 = .bool false := hp.1; have h53 : slotOf a 53 = .bool false := hp.2.1; refine wp_yields (v := .bool false) ?_ ⟨_, rfl, rfl, Below.refl _ _, hG⟩; simp [slotOf] at h44 h53; simp [execOp, go_sem, h44, h53]
      ·intro a W hG hR hO hp; have h54 : slotOf a 54 = .bool false := hp.1; refine wp_yields (v := .bool false) ?_ ⟨_, rfl, rfl, Below.refl _ _, hG⟩; simp [slotOf] at h54; simp [execOp, go_sem, h54]
      ·intro a W hG hR hO hp; have h11 := hO.slot 11 (by kernel_rfl); refine wp_yields (v := .pointer (some ⟨bb, 6, none⟩)) ?_ ⟨_, rfl, rfl, Below.refl _ _, hG⟩; simp [slotOf] at h11; simp [execOp, go_sem, h11]
      ·intro a W hG hR hO hp; have h56 : slotOf a 56 = .pointer (some ⟨bb, 6, none⟩) := hp.1; have c0 := keep_cell z6 hG; have c1 := keep_cell z7 hG; refine wp_yields (v := rgV bd.wa) ?_ ⟨_, rfl, rfl, Below.refl _ _, hG⟩; simp [slotOf] at h56; simp [execOp, go_sem, h56, c0, c1]
      ·intro a W hG hR hO hp; have h5 := hO.slot 5 (by kernel_rfl); have c0 := keep_cell t0 hG; refine wp_yields (v := .slice (some ⟨bt, ot, none⟩) tl.length tc) ?_ ⟨_, rfl, rfl, Below.refl _ _, hG⟩; simp [slotOf] at h5; simp [execOp, go_sem, h5, c0]
      ·intro a W hG hR hO hp; have h10 := hO.slot 10 (by kernel_rfl); refine wp_yields (v := vi k) ?_ ⟨_, rfl, rfl, Below.refl _ _, hG⟩; simp [slotOf] at h10; simp [execOp, go_sem, h10]
      ·intro a W hG hR hO hp; have h58 : slotOf a 58 = .slice (some ⟨bt, ot, none⟩) tl.length tc := hp.1; have h59 : slotOf a 59 = vi k := hp.2.1; refine wp_yields (v := .pointer (some ⟨bt, ot + k * 3, none⟩)) ?_ ⟨_, rfl, rfl, Below.refl _ _, hG⟩; simp [slotOf] at h58 h59; simp [execOp, go_sem, h58, h59, hkt]
      ·intro a W hG hR hO hp; have h60 : slotOf a 60 = .pointer (some ⟨bt, ot + k * 3, none⟩) := hp.1; refine wp_yields (v := .pointer (some ⟨bt, ot + k * 3 + 2, none⟩)) ?_ ⟨_, rfl, rfl, Below.refl _ _, hG⟩; simp [slotOf] at h60; simp [execOp, go_sem, h60]
      ·intro a W hG hR hO hp; have h61 : slotOf a 61 = .pointer (some ⟨bt, ot + k * 3 + 2, none⟩) := hp.1; have c0 := keep_cell r2 hG; refine wp_yields (v := vi y.wa) ?_ ⟨_, rfl, rfl, Below.refl _ _, hG⟩; simp [slotOf] at h61; simp [execOp, go_sem, h61, c0]
      ·intro a W hG hR hO hp
       have h57 : slotOf a 57 = rgV bd.wa := hp.1
       have h62 : slotOf a 62 = vi y.wa := hp.2.1
       refine wp_enters (f := 51) (args := #[rgV bd.wa, vi y.wa]) ?_ ((HH3.out W).mono ?_)
       ·simp [slotOf] at h57 h62
        simp [go_sem, h57, h62]
       ·rintro e w' ⟨rfl, hb⟩
        exact ⟨_, rfl, _, rfl, rfl, hb, below_next hG hb⟩
      ·intro a W hG hR hO hp; have h63 : slotOf a 63 = .bool false := hp.1; refine wp_yields (v := .bool true) ?_ ⟨_, rfl, rfl, Below.refl _ _, hG⟩; simp [slotOf] at h63; simp [execOp, go_sem, h63]
     ·intro wz hG hR
      rintro _ rfl _ rfl _ rfl _ rfl _ rfl _ rfl _ rfl _ rfl _ rfl _ rfl _ rfl _ rfl _ rfl _ rfl _ rfl _ rfl _ rfl _ rfl _ rfl _ rfl _ rfl _ rfl _ rfl _ rfl _ rfl _ rfl _ rfl _ rfl _ rfl _ rfl
      change wpList _ _ _ _ _ _
      simp only [Act.put, List.setIfInBounds_toArray, List.set_cons_zero, List.set_cons_succ, List.drop_succ_cons, List.drop_zero]
      have HN := Lib.hid (newer_trans HE5.out.1 hG)
      have HFF := Lib.hid (HFL.out (fun h => by have h1 := h k hlt; rw [HFK.out] at h1; cases h1))
      clear hG hR HE5 t0 r0 r1 r2 z0 z1 z2 z3 z4 z5 z6 z7
      go_wp2_with fail
      exact bodyPost_ret (v := .tuple #[vi 0, vi 9]) (by simp [results, Tryz.results20, go_sem]) rfl ⟨by rw [HFF.out], HN.out⟩
    | true =>
     refine wp_words (by kernel_rfl) (region_told_u 30 (by kernel_rfl) (by kernel_rfl) [false, false, false, false, false, false, false, false, false, false, false, false, false, false, false, false, false, false, false, false, false, false, false, false, false, false, false, false, false, false] (fun W => Below w5.heap.size w5 W) newer [vIs (.pointer (some ⟨bb, 2, none⟩)), vIs (rgV bd.fr), vIs (.slice (some ⟨bt, ot, none⟩) tl.length tc), vIs (vi k), vIs (.pointer (some ⟨bt, ot + k * 3, none⟩)), vIs (.pointer (some ⟨bt, ot + k * 3, none⟩)), vIs (vi y.fr), vIs (.bool true), vIs (.bool false), vIs (.bool false), vIs (.pointer (some ⟨bb, 4, none⟩)), vIs (rgV bd.co), vIs (.slice (some ⟨bt, ot, none⟩) tl.length tc), vIs (vi k), vIs (.pointer (some ⟨bt, ot + k * 3, none⟩)), vIs (.pointer (some ⟨bt, ot + k * 3 + 1, none⟩)), vIs (vi y.co), vIs (.bool true), vIs (.bool false), vIs (.bool false), vIs (.bool false), vIs (.pointer (some ⟨bb, 6, none⟩)), vIs (rgV bd.wa), vIs (.slice (some ⟨bt, ot, none⟩) tl.length tc), vIs (vi k), vIs (.pointer (some ⟨bt, ot + k * 3, none⟩)), vIs (.pointer (some ⟨bt, ot + k * 3 + 2, none⟩)), vIs (vi y.wa), vIs (.bool true), vIs (.bool false)] (by repeat' first | refine And.intro ?_ ?_ | exact trivial | exact rfl | (intro v W h; obtain rfl : v = _ := h; first | rfl | (simp; done) | (simp [undef]; done))) (by repeat' first | refine And.intro ?_ ?_ | exact trivial | exact (fun h => Bool.noConfusion (show false = true from h)) | exact (fun _ _ => rfl)) (fun h k => newer_trans h k) (pickD_stable _ (by repeat' first | refine And.intro ?_ ?_ | exact trivial | exact vIs_st)) (Below.refl _ w5).drew (Below.refl _ _) ?_ ?_)
     ·refine ⟨.inr ?_, .inr ?_, .inr ?_, .inr ?_, .inr ?_, .inr ?_, .inr ?_, .inr ?_, .inr ?_, .inr ?_, .inr ?_, .inr ?_, .inr ?_, .inr ?_, .inr ?_, .inr ?_, .inr ?_, .inr ?_, .inr ?_, .inr ?_, .inr ?_, .inr ?_, .inr ?_, .inr ?_, .inr ?_, .inr ?_, .inr ?_, .inr ?_, .inr ?_, .inr ?_, trivial⟩
      ·intro a W hG hR hO hp; have h11 := hO.slot 11 (by kernel_rfl); refine wp_yields (v := .pointer (some ⟨bb, 2, none⟩)) ?_ ⟨_, rfl, rfl, Below.refl _ _, hG⟩; simp [slotOf] at h11; simp [execOp, go_sem, h11]
      ·intro a W hG hR hO hp; have h35 : slotOf a 35 = .pointer (some ⟨bb, 2, none⟩) := hp.1; have c0 := keep_cell z2 hG; have c1 := keep_cell z3 hG; refine wp_yields (v := rgV bd.fr) ?_ ⟨_, rfl, rfl, Below.refl _ _, hG⟩; simp [slotOf] at h35; simp [execOp, go_sem, h35, c0, c1]
      ·intro a W hG hR hO hp; have h5 := hO.slot 5 (by kernel_rfl); have c0 := keep_cell t0 hG; refine wp_yields (v := .slice (some ⟨bt, ot, none⟩) tl.length tc) ?_ ⟨_, rfl, rfl, Below.refl _ _, hG⟩; simp [slotOf] at h5; simp [execOp, go_sem, h5, c0]
      ·intro a W hG hR hO hp; have h10 := hO.slot 10 (by kernel_rfl); refine wp_yields (v := vi k) ?_ ⟨_, rfl, rfl, Below.refl _ _, hG⟩; simp [slotOf] at h10; simp [execOp, go_sem, h10]
      ·intro a W hG hR hO hp; have h37 : slotOf a 37 = .slice (some ⟨bt, ot, none⟩) tl.length tc := hp.1; have h38 : slotOf a 38 = vi k := hp.2.1; refine wp_yields (v := .pointer (some ⟨bt, ot + k * 3, none⟩)) ?_ ⟨_, rfl, rfl, Below.refl _ _, hG⟩; simp [slotOf] at h37 h38; simp [execOp, go_sem, h37, h38, hkt]
      ·intro a W hG hR hO hp; have h39 : slotOf a 39 = .pointer (some ⟨bt, ot + k * 3, none⟩) := hp.1; refine wp_yields (v := .pointer (some ⟨bt, ot + k * 3, none⟩)) ?_ ⟨_, rfl, rfl, Below.refl _ _, hG⟩; simp [slotOf] at h39; simp [execOp, go_sem, h39]
      ·intro a W hG hR hO hp; have h40 : slotOf a 40 = .pointer (some ⟨bt, ot + k * 3, none⟩) := hp.1; have c0 := keep_cell r0 hG; refine wp_yields (v := vi y.fr) ?_ ⟨_, rfl, rfl, Below.refl _ _, hG⟩; simp [slotOf] at h40; simp [execOp, go_sem, h40, c0]
      ·intro a W hG hR hO hp
       have h36 : slotOf a 36 = rgV bd.fr := hp.1
       have h41 : slotOf a 41 = vi y.fr := hp.2.1
       refine wp_enters (f := 51) (args := #[rgV bd.fr, vi y.fr]) ?_ ((HH1.out W).mono ?_)
       ·simp [slotOf] at h36 h41
        simp [go_sem, h36, h41]
       ·rintro e w' ⟨rfl, hb⟩
        exact ⟨_, rfl, _, rfl, rfl, hb, below_next hG hb⟩
      ·intro a W hG hR hO hp; have h42 : slotOf a 42 = .bool true := hp.1; refine wp_yields (v := .bool false) ?_ ⟨_, rfl, rfl, Below.refl _ _, hG⟩; simp [slotOf] at h42; simp [execOp, go_sem, h42]
      ·intro a W hG hR hO hp; have h43 : slotOf a 43 = .bool false := hp.1; refine wp_yields (v := .bool false) ?_ ⟨_, rfl, rfl, Below.refl _ _, hG⟩; simp [slotOf] at h43; simp [execOp, go_sem, h43]
      ·intro a W hG hR hO hp; have h11 := hO.slot 11 (by kernel_rfl); refine wp_yields (v := .pointer (some ⟨bb, 4, none⟩)) ?_ ⟨_, rfl, rfl, Below.refl _ _, hG⟩; simp [slotOf] at h11; simp [execOp, go_sem, h11]
      ·intro a W hG hR hO hp; have h45 : slotOf a 45 = .pointer (some ⟨bb, 4, none⟩) := hp.1; have c0 := keep_cell z4 hG; have c1 := keep_cell z5 hG; refine wp_yields (v := rgV bd.co) ?_ ⟨_, rfl, rfl, Below.refl _ _, hG⟩; simp [slotOf] at h45; simp [execOp, go_sem, h45, c0, c1]
      ·intro a W hG hR hO hp; have h5 := hO.slot 5 (by kernel_rfl); have c0 := keep_cell t0 hG; refine wp_yields (v := .slice (some ⟨bt, ot, none⟩) tl.length tc) ?_ ⟨_, rfl, rfl, Below.refl _ _, hG⟩; simp [slotOf] at h5; simp [execOp, go_sem, h5, c0]
      ·intro a W hG hR hO hp; have h10 := hO.slot 10 (by kernel_rfl); refine wp_yields (v := vi k) ?_ ⟨_, rfl, rfl, Below.refl _ _, hG⟩; simp [slotOf] at h10; simp [execOp, go_sem, h10]
      ·intro a W hG hR hO hp; have h47 : slotOf a 47 = .slice (some ⟨bt, ot, none⟩) tl.length tc := hp.1; have h48 : slotOf a 48 = vi k := hp.2.1; refine wp_yields (v := .pointer (some ⟨bt, ot + k * 3, none⟩)) ?_ ⟨_, rfl, rfl, Below.refl _ _, hG⟩; simp [slotOf] at h47 h48; simp [execOp, go_sem, h47, h48, hkt]
      ·intro a W hG hR hO hp; have h49 : slotOf a 49 = .pointer (some ⟨bt, ot + k * 3, none⟩) := hp.1; refine wp_yields (v := .pointer (some ⟨bt, ot + k * 3 + 1, none⟩)) ?_ ⟨_, rfl, rfl, Below.refl _ _, hG⟩; simp [slotOf] at h49; simp [execOp, go_sem, h49]
      ·intro a W hG hR hO hp; have h50 : slotOf a 50 = .pointer (some ⟨bt, ot + k * 3 + 1, none⟩) := hp.1; have c0 := keep_cell r1 hG; refine wp_yields (v := vi y.co) ?_ ⟨_, rfl, rfl, Below.refl _ _, hG⟩; simp [slotOf] at h50; simp [execOp, go_sem, h50, c0]
      ·intro a W hG hR hO hp
       have h46 : slotOf a 46 = rgV bd.co := hp.1
       have h51 : slotOf a 51 = vi y.co := hp.2.1
       refine wp_enters (f := 51) (args := #[rgV bd.co, vi y.co]) ?_ ((HH2.out W).mono ?_)
       ·simp [slotOf] at h46 h51
        simp [go_sem, h46, h51]
       ·rintro e w' ⟨rfl, hb⟩
        exact ⟨_, rfl, _, rfl, rfl, hb, below_next hG hb⟩
      ·intro a W hG hR hO hp; have h52 : slotOf a 52 = .bool true := hp.1; refine wp_yields (v := .bool false) ?_ ⟨_, rfl, rfl, Below.refl _ _, hG⟩; simp [slotOf] at h52; simp [execOp, go_sem, h52]
      ·intro a W hG hR hO hp; have h44 : slotOf a 44 = .bool false := hp.1; have h53 : slotOf a 53 = .bool false := hp.2.1; refine wp_yields (v := .bool false) ?_ ⟨_, rfl, rfl, Below.refl _ _, hG⟩; simp [slotOf] at h44 h53; simp [execOp, go_sem, h44, h53]
      ·intro a W hG hR hO hp; have h54 : slotOf a 54 = .bool false := hp.1; refine wp_yields (v := .bool false) ?_ ⟨_, rfl, rfl, Below.refl _ _, hG⟩; simp [slotOf] at h54; simp [execOp, go_sem, h54]
      ·intro a W hG hR hO hp; have h11 := hO.slot 11 (by kernel_rfl); refine wp_yields (v := .pointer (some ⟨bb, 6, none⟩)) ?_ ⟨_, rfl, rfl, Below.refl _ _, hG⟩; simp [slotOf] at h11; simp [execOp, go_sem, h11]
      ·intro a W hG hR hO hp; have h56 : slotOf a 56 = .pointer (some ⟨bb, 6, none⟩) := hp.1; have c0 := keep_cell z6 hG; have c1 := keep_cell z7 hG; refine wp_yields (v := rgV bd.wa) ?_ ⟨_, rfl, rfl, Below.refl _ _, hG⟩; simp [slotOf] at h56; simp [execOp, go_sem, h56, c0, c1]
      ·intro a W hG hR hO hp; have h5 := hO.slot 5 (by kernel_rfl); have c0 := keep_cell t0 hG; refine wp_yields (v := .slice (some ⟨bt, ot, none⟩) tl.length tc) ?_ ⟨_, rfl, rfl, Below.refl _ _, hG⟩; simp [slotOf] at h5; simp [execOp, go_sem, h5, c0]
      ·intro a W hG hR hO hp; have h10 := hO.slot 10 (by kernel_rfl); refine wp_yields (v := vi k) ?_ ⟨_, rfl, rfl, Below.refl _ _, hG⟩; simp [slotOf] at h10; simp [execOp, go_sem, h10]
      ·intro a W hG hR hO hp; have h58 : slotOf a 58 = .slice (some ⟨bt, ot, none⟩) tl.length tc := hp.1; have h59 : slotOf a 59 = vi k := hp.2.1; refine wp_yields (v := .pointer (some ⟨bt, ot + k * 3, none⟩)) ?_ ⟨_, rfl, rfl, Below.refl _ _, hG⟩; simp [slotOf] at h58 h59; simp [execOp, go_sem, h58, h59, hkt]
      ·intro a W hG hR hO hp; have h60 : slotOf a 60 = .pointer (some ⟨bt, ot + k * 3, none⟩) := hp.1; refine wp_yields (v := .pointer (some ⟨bt, ot + k * 3 + 2, none⟩)) ?_ ⟨_, rfl, rfl, Below.refl _ _, hG⟩; simp [slotOf] at h60; simp [execOp, go_sem, h60]
      ·intro a W hG hR hO hp; have h61 : slotOf a 61 = .pointer (some ⟨bt, ot + k * 3 + 2, none⟩) := hp.1; have c0 := keep_cell r2 hG; refine wp_yields (v := vi y.wa) ?_ ⟨_, rfl, rfl, Below.refl _ _, hG⟩; simp [slotOf] at h61; simp [execOp, go_sem, h61, c0]
      ·intro a W hG hR hO hp
       have h57 : slotOf a 57 = rgV bd.wa := hp.1
       have h62 : slotOf a 62 = vi y.wa := hp.2.1
       refine wp_enters (f := 51) (args := #[rgV bd.wa, vi y.wa]) ?_ ((HH3.out W).mono ?_)
       ·simp [slotOf] at h57 h62
        simp [go_sem, h57, h62]
       ·rintro e w' ⟨rfl, hb⟩
        exact ⟨_, rfl, _, rfl, rfl, hb, below_next hG hb⟩
      ·intro a W hG hR hO hp; have h63 : slotOf a 63 = .bool true := hp.1; refine wp_yields (v := .bool false) ?_ ⟨_, rfl, rfl, Below.refl _ _, hG⟩; simp [slotOf] at h63; simp [execOp, go_sem, h63]
     ·intro wz hG hR
      rintro _ rfl _ rfl _ rfl _ rfl _ rfl _ rfl _ rfl _ rfl _ rfl _ rfl _ rfl _ rfl _ rfl _ rfl _ rfl _ rfl _ rfl _ rfl _ rfl _ rfl _ rfl _ rfl _ rfl _ rfl _ rfl _ rfl _ rfl _ rfl _ rfl _ rfl
      change wpList _ _ _ _ _ _
      simp only [Act.put, List.setIfInBounds_toArray, List.set_cons_zero, List.set_cons_succ, List.drop_succ_cons, List.drop_zero]
      have HN := Lib.hid (And.intro (newer_trans HE5.out.1 hG) (And.intro (HE5.out.2.1.below hG HE5.out.2.1.lt) ((HE5.out.2.2.below hG).more hG.size)))
      clear hG hR HE5 t0 r0 r1 r2 z0 z1 z2 z3 z4 z5 z6 z7
      go_wp2_with fail
      refine ⟨⟨k + 1, rfl, by omega, fun i h => ?_, HN.out.1, HN.out.2.1, HN.out.2.2⟩, ?_⟩
      ·by_cases hik : i = k
       ·rw [hik, HFK.out]; rfl
       ·exact HFI.out i (by omega)
      ·simp [intOf]
       omega
   ·obtain rfl : k = bs.length := by omega
    obtain ⟨D, hD⟩ : ∃ D, D = dK bs bs.length := ⟨_, rfl⟩
    obtain ⟨H, hH⟩ : ∃ H, H = hK bs (fun i => tl.getD i ⟨0, 0, 0⟩) bs.length := ⟨_, rfl⟩
    have HRV : Hid (R = if D < 1 then (0, 7) else (factorN H D, 0)) := Lib.hid (by rw [HRR.out, if_pos (fitsA_iff.2 ⟨HLN.out, HFI.out⟩), <- hD, <- hH])
    have HFA : Hid (Calls Tryz.prog 52 #[.slice A bs.length c, .func (.func 53) #[] #[.pointer (some ⟨w.heap.size + 1 + 1, 0, none⟩)]] wr fun e w' => e = .returned (facV H D) /\ newer wr w') := Lib.hid (by
     rw [hH, hD]
     refine factor_any bs A c 53 #[.pointer (some ⟨w.heap.size + 1 + 1, 0, none⟩)] (fun i => tl.getD i ⟨0, 0, 0⟩) wr (by omega) HJ.out.2.2 HBO.out (fun i hi => ?_) (fun args W => by simp [go_sem]) (fun i b W hb hW => ?_)
     ·obtain ⟨b, hb⟩ := get_of_lt (l := bs) (k := i) hi
      have hge : bs.getD i zeroBd = b := by simp [List.getD, hb]
      have h1 := HFI.out i hi
      rw [hge] at h1
      exact fit_rlB (HBO.out b (List.mem_of_getElem? hb)) h1
     ·obtain ⟨y, hy⟩ := get_of_lt (l := tl) (k := i) (by rw [HLN.out]; exact (List.getElem?_eq_some_iff.1 hb).1)
      have hgy : tl.getD i ⟨0, 0, 0⟩ = y := by simp [List.getD, hy]
      show Calls _ _ _ _ fun e w' => e = .returned (rlV (tl.getD i ⟨0, 0, 0⟩)) /\ newer W w'
      rw [hgy]
      exact truthAt_any tl TA tc _ i b y W (HJ.out.2.1.below hW HJ.out.2.1.lt) ((HOK.out.2.2.below (newer_trans HJ.out.1 hW)).more (newer_trans HJ.out.1 hW).size) hy)
    clear hD hH
    unfold facV at HFA
    by_cases hd1 : D < 1
    ·rw [if_pos hd1] at HFA HRV
     go_wp2_with fail
     refine (HFA.out).mono ?_
     rintro e w6 ⟨rfl, hb⟩
     have HE := Lib.hid (newer_trans HJ.out.1 hb)
     clear hb
     go_wp2_with fail
     exact bodyPost_ret (v := .tuple #[vi 0, vi 7]) (by simp [results, Tryz.results20, go_sem]) rfl ⟨by rw [HRV.out], HE.out⟩
    ·rw [if_neg hd1] at HFA HRV
     obtain ⟨fv, hfv⟩ : ∃ fv, fv = factorN H D := ⟨_, rfl⟩
     rw [<- hfv] at HFA HRV
     clear hfv
     go_wp2_with fail
     refine (HFA.out).mono ?_
     rintro e w6 ⟨rfl, hb⟩
     have HE := Lib.hid (newer_trans HJ.out.1 hb)
     clear hb
     go_wp2_with fail
     exact bodyPost_ret (v := .tuple #[vi fv, vi 0]) (by simp [results, Tryz.results20, go_sem]) rfl ⟨by rw [HRV.out], HE.out⟩
 ·rw [if_neg hz] at hR
  have hz2 : (a == 0) = false := by rw [beq_eq_false_iff_ne]; exact hz
  have hz3 : (a != 0) = true := by simp [hz]
  have HRR := Lib.hid hR
  clear HZ hR hz
  go_enter Tryz.func20, Tryz.ntmps20
  go_wp2_with fail
  refine (HCU.out).mono ?_
  rintro e w1 ⟨rfl, hb⟩
  have HE := Lib.hid (newer_trans H0.out.1 hb)
  clear H0 hb HCU x0 x1 u0 u1
  go_wp2_with fail
  exact bodyPost_ret (v := .tuple #[vi 0, vi a]) (by simp [results, Tryz.results20, go_sem]) rfl ⟨by rw [HRR.out], HE.out⟩
end

section
open Go.ChangeShapes Go.WideShapes Go.ChangeAt Go.RowKit Go.Shelf Go.Deep
theorem Tryz.cells5 : Tryz.prog.cellsOf 5 = 1 := by kernel_rfl
theorem Tryz.cells31 : Tryz.prog.cellsOf 31 = 1 := by kernel_rfl
section
variable {H : Type} {enc : TypeId × Value -> H} {w : World} {base : Nat} {spare : Nat -> Bool} {held : Bool} {fuel : Nat} {cs : List Value} {x : DataW H × List MemPlace}
theorem byte_cells (h : DataW.trod enc Tryz.prog w base spare held fuel 5 cs = some x) : ∃ y : Byt, cs = byL y /\ True := by
 obtain ⟨z, e, _, hw⟩ := DataW.trod_int Tryz.underlying5 h
 have hb : 0 <= z /\ z <= 255 := by
  simp [Lit.wf] at hw
  exact hw
 exact ⟨⟨z, hb.1, hb.2⟩, e, trivial⟩
theorem half_cells (h : DataW.trod enc Tryz.prog w base spare held fuel 31 cs = some x) : ∃ y : Hlf, cs = hwL y /\ True := by
 obtain ⟨z, e, _, hw⟩ := DataW.trod_int Tryz.underlying31 h
 have hb : 0 <= z /\ z <= 65535 := by
  simp [Lit.wf] at hw
  exact hw
 exact ⟨⟨z, hb.1, hb.2⟩, e, trivial⟩
theorem bytes_open (h : DataW.trod enc Tryz.prog w base spare held fuel 33 cs = some x) : ∃ (D : Option Addr) (l : List Byt) (dp : Nat), cs = [.slice D l.length dp] /\ l.length <= maxLen /\ Row byL 1 w w.heap.size D l := by
 obtain ⟨A, l, cp, e, hl, hr, _⟩ := open_rowP (ec := byL) Tryz.underlying33 Tryz.cells5 (fun _ => rfl) (by omega) byte_cells h
 exact ⟨A, l, cp, e, hl, hr⟩
theorem halves_open (h : DataW.trod enc Tryz.prog w base spare held fuel 32 cs = some x) : ∃ (D : Option Addr) (l : List Hlf) (dp : Nat), cs = [.slice D l.length dp] /\ l.length <= maxLen /\ Row hwL 1 w w.heap.size D l := by
 obtain ⟨A, l, cp, e, hl, hr, _⟩ := open_rowP (ec := hwL) Tryz.underlying32 Tryz.cells31 (fun _ => rfl) (by omega) half_cells h
 exact ⟨A, l, cp, e, hl, hr⟩
end
set_option maxRecDepth 100000 in
set_option maxHeartbeats 1000000 in
theorem word_any (ws : List Byt) (A : Option Addr) (c wb i : Nat) (w : World) (hw : Whole w wb 33 #[.slice A ws.length c]) (hr : Row byL 1 w w.heap.size A ws) (hi : i <= 100000000) : Calls Tryz.prog 48 #[vi i, .pointer (some ⟨wb, 0, none⟩)] w fun e w' => ∃ n : Nat, e = .returned (vi n) /\ n <= 255 /\ newer w w' := by
 have c0 := hw.at 0 rfl
 by_cases hbe : ws = []
 ·subst hbe
  clear hr
  go_enter Tryz.func48, Tryz.ntmps48
  go_wp2_with fail
  go_ret
  exact ⟨0, rfl, by omega, newer_refl _⟩
 ·have hl0 : 0 < ws.length := List.length_pos_iff.2 hbe
  have hbn : ¬ (ws = []) := hbe
  obtain ⟨j, hj⟩ : ∃ j, j = i % ws.length := ⟨_, rfl⟩
  have hjl : j < ws.length := by rw [hj]; exact Nat.mod_lt _ hl0
  have hjn : (j : Int) < ws.length := by omega
  have ej : (i : Int).tmod ws.length = j := by rw [hj, Int.tmod_eq_emod_of_nonneg (by omega)]; exact (Int.natCast_emod _ _).symm
  obtain ⟨y, hy⟩ := get_of_lt hjl
  obtain ⟨ab, ao, rfl, _, cb⟩ := row_byte hr hy
  have hb0 := y.lo
  have hb1 := y.hi
  obtain ⟨yn, hyn⟩ : ∃ yn : Nat, y.n = yn := ⟨y.n.toNat, by omega⟩
  rw [hyn] at cb hb0 hb1
  have e31 : IntKind.i64.wrap (yn : Int) = yn := IntWalk.i64_in _ (by omega)
  have hcz : ¬ ((ws.length : Int) = 0) := by omega
  have HY := Lib.hid (And.intro hb0 hb1)
  clear hr hy hj hw hb0 hb1 hbe hyn
  go_enter Tryz.func48, Tryz.ntmps48
  go_upto_region 3 with fail
  refine wp_words (by kernel_rfl) (region_told 8 (by kernel_rfl) (by kernel_rfl) (fun W => Below w.heap.size w W) newer (pickD [vIs (.slice (some ⟨ab, ao, none⟩) ws.length c), vIs (.int .i64 i), vIs (.slice (some ⟨ab, ao, none⟩) ws.length c), vIs (.int .i64 ws.length), vIs (.int .i64 j), vIs (.pointer (some ⟨ab, ao + j, none⟩)), vIs (.int .u8 (yn : Int)), vIs (vi yn)]) (fun h k => newer_trans h k) (pickD_stable _ ⟨vIs_st, vIs_st, vIs_st, vIs_st, vIs_st, vIs_st, vIs_st, vIs_st, trivial⟩) (Below.refl _ w).drew (Below.refl _ _) ?_ ?_)
  ·refine ⟨?_, ?_, ?_, ?_, ?_, ?_, ?_, ?_, trivial⟩
   ·intro a W hG hR hO hp; have h1 := hO.slot 1 (by kernel_rfl); have c0 := keep_cell c0 hG; refine wp_yields (v := .slice (some ⟨ab, ao, none⟩) ws.length c) ?_ ⟨_, rfl, rfl, Below.refl _ _, hG⟩; simp [slotOf] at h1; simp [execOp, go_sem, h1, c0]
   ·intro a W hG hR hO hp; have h0 := hO.slot 0 (by kernel_rfl); refine wp_yields (v := .int .i64 i) ?_ ⟨_, rfl, rfl, Below.refl _ _, hG⟩; simp [slotOf] at h0; simp [execOp, go_sem, h0]
   ·intro a W hG hR hO hp; have h1 := hO.slot 1 (by kernel_rfl); have c0 := keep_cell c0 hG; refine wp_yields (v := .slice (some ⟨ab, ao, none⟩) ws.length c) ?_ ⟨_, rfl, rfl, Below.refl _ _, hG⟩; simp [slotOf] at h1; simp [execOp, go_sem, h1, c0]
   ·intro a W hG hR hO hp; have h9 : slotOf a 9 = .slice (some ⟨ab, ao, none⟩) ws.length c := hp.1; refine wp_yields (v := .int .i64 ws.length) ?_ ⟨_, rfl, rfl, Below.refl _ _, hG⟩; simp [slotOf] at h9; simp [go_sem, h9]
   ·intro a W hG hR hO hp; have h8 : slotOf a 8 = .int .i64 i := hp.1; have h10 : slotOf a 10 = .int .i64 ws.length := hp.2.1; refine wp_yields (v := .int .i64 j) ?_ ⟨_, rfl, rfl, Below.refl _ _, hG⟩; simp [slotOf] at h8 h10; simp [execOp, go_sem, h8, h10, ej, hbn]
   ·intro a W hG hR hO hp; have h7 : slotOf a 7 = .slice (some ⟨ab, ao, none⟩) ws.length c := hp.1; have h11 : slotOf a 11 = .int .i64 j := hp.2.1; refine wp_yields (v := .pointer (some ⟨ab, ao + j, none⟩)) ?_ ⟨_, rfl, rfl, Below.refl _ _, hG⟩; simp [slotOf] at h7 h11; simp [execOp, go_sem, h7, h11, hjn]
   ·intro a W hG hR hO hp; have h12 : slotOf a 12 = .pointer (some ⟨ab, ao + j, none⟩) := hp.1; have c0 := keep_cell cb hG; refine wp_yields (v := .int .u8 (yn : Int)) ?_ ⟨_, rfl, rfl, Below.refl _ _, hG⟩; simp [slotOf] at h12; simp [execOp, go_sem, h12, c0]
   ·intro a W hG hR hO hp; have h13 : slotOf a 13 = .int .u8 (yn : Int) := hp.1; refine wp_yields (v := vi yn) ?_ ⟨_, rfl, rfl, Below.refl _ _, hG⟩; simp [slotOf] at h13; simp [execOp, go_sem, h13, e31]
  ·intro wz hG hR
   rintro _ rfl _ rfl _ rfl _ rfl _ rfl _ rfl _ rfl _ rfl
   change wpList _ _ _ _ _ _
   simp only [Act.put, List.setIfInBounds_toArray, List.set_cons_zero, List.set_cons_succ, List.drop_succ_cons, List.drop_zero]
   have HE := Lib.hid hG
   clear hG hR
   go_wp2_with fail
   go_ret
   exact ⟨yn, rfl, by have := HY.out; omega, HE.out⟩
set_option maxRecDepth 100000 in
set_option maxHeartbeats 1000000 in
theorem pick_any (r : Rg) (x : Int) (w : World) (x0 : 0 <= x) (x1 : x <= 65535) (h0 : 0 <= r.lo) (h1 : r.lo <= r.hi) (h2 : r.hi <= 100000) : Calls Tryz.prog 55 #[rgV r, .int .u16 x] w fun e w' => ∃ v, e = .returned (vi v) /\ r.lo <= v /\ v <= r.hi /\ newer w w' := by
 have e8 : IntKind.i64.wrap x = x := IntWalk.i64_in _ (by omega)
 obtain ⟨dd, hdd⟩ : ∃ dd, dd = r.hi - r.lo := ⟨_, rfl⟩
 have e13 : IntKind.i64.wrap (r.hi - r.lo) = dd := by rw [<- hdd]; exact IntWalk.i64_in _ (by omega)
 obtain ⟨mm, hmm⟩ : ∃ mm, mm = dd + 1 := ⟨_, rfl⟩
 have e14 : IntKind.i64.wrap (dd + 1) = mm := by rw [<- hmm]; exact IntWalk.i64_in _ (by omega)
 have hm0 : ¬ (mm = 0) := by omega
 obtain ⟨kc, hkc⟩ : ∃ kc, kc = x % mm := ⟨_, rfl⟩
 have e15 : x.tmod mm = kc := by rw [hkc]; exact Int.tmod_eq_emod_of_nonneg x0
 have hk1 : 0 <= kc /\ kc < mm := by rw [hkc]; exact ⟨Int.emod_nonneg _ hm0, Int.emod_lt_of_pos _ (by omega)⟩
 obtain ⟨vv, hvv⟩ : ∃ vv, vv = r.lo + kc := ⟨_, rfl⟩
 have e16 : IntKind.i64.wrap (r.lo + kc) = vv := by rw [<- hvv]; exact IntWalk.i64_in _ (by omega)
 have HV := Lib.hid (show r.lo <= vv /\ vv <= r.hi by omega)
 have H0 := Lib.hid (And.intro (newer_allocH w (.cells #[vi r.lo, vi r.hi] 38)) (Whole.made w 38 #[vi r.lo, vi r.hi]))
 clear x0 x1
 have x0 := H0.out.2.at 0 (v := vi r.lo) rfl
 have x1 := H0.out.2.at 1 (v := vi r.hi) rfl
 clear h0 h1 h2 hdd hmm hkc hk1 hvv
 go_enter Tryz.func55, Tryz.ntmps55
 go_upto_region 1 with fail
 refine wp_words (by kernel_rfl) (region_told 12 (by kernel_rfl) (by kernel_rfl) (fun W => Below (w.alloc (.cells #[vi r.lo, vi r.hi] 38)).heap.size (w.alloc (.cells #[vi r.lo, vi r.hi] 38)) W) newer (pickD [vIs (.pointer (some ⟨w.heap.size, 0, none⟩)), vIs (vi r.lo), vIs (.int .u16 x), vIs (vi x), vIs (.pointer (some ⟨w.heap.size, 1, none⟩)), vIs (vi r.hi), vIs (.pointer (some ⟨w.heap.size, 0, none⟩)), vIs (vi r.lo), vIs (vi dd), vIs (vi mm), vIs (vi kc), vIs (vi vv)]) (fun h k => newer_trans h k) (pickD_stable _ ⟨vIs_st, vIs_st, vIs_st, vIs_st, vIs_st, vIs_st, vIs_st, vIs_st, vIs_st, vIs_st, vIs_st, vIs_st, trivial⟩) (Below.refl _ (w.alloc (.cells #[vi r.lo, vi r.hi] 38))).drew (Below.refl _ _) ?_ ?_)
 ·refine ⟨?_, ?_, ?_, ?_, ?_, ?_, ?_, ?_, ?_, ?_, ?_, ?_, trivial⟩
  ·intro a W hG hR hO hp; have h2 := hO.slot 2 (by kernel_rfl); refine wp_yields (v := .pointer (some ⟨w.heap.size, 0, none⟩)) ?_ ⟨_, rfl, rfl, Below.refl _ _, hG⟩; simp [slotOf] at h2; simp [execOp, go_sem, h2]
  ·intro a W hG hR hO hp; have h5 : slotOf a 5 = .pointer (some ⟨w.heap.size, 0, none⟩) := hp.1; have c0 := keep_cell x0 hG; refine wp_yields (v := vi r.lo) ?_ ⟨_, rfl, rfl, Below.refl _ _, hG⟩; simp [slotOf] at h5; simp [execOp, go_sem, h5, c0]
  ·intro a W hG hR hO hp; have h1 := hO.slot 1 (by kernel_rfl); refine wp_yields (v := .int .u16 x) ?_ ⟨_, rfl, rfl, Below.refl _ _, hG⟩; simp [slotOf] at h1; simp [execOp, go_sem, h1]
  ·intro a W hG hR hO hp; have h7 : slotOf a 7 = .int .u16 x := hp.1; refine wp_yields (v := vi x) ?_ ⟨_, rfl, rfl, Below.refl _ _, hG⟩; simp [slotOf] at h7; simp [execOp, go_sem, h7, e8]
  ·intro a W hG hR hO hp; have h2 := hO.slot 2 (by kernel_rfl); refine wp_yields (v := .pointer (some ⟨w.heap.size, 1, none⟩)) ?_ ⟨_, rfl, rfl, Below.refl _ _, hG⟩; simp [slotOf] at h2; simp [execOp, go_sem, h2]
  ·intro a W hG hR hO hp; have h9 : slotOf a 9 = .pointer (some ⟨w.heap.size, 1, none⟩) := hp.1; have c0 := keep_cell x1 hG; refine wp_yields (v := vi r.hi) ?_ ⟨_, rfl, rfl, Below.refl _ _, hG⟩; simp [slotOf] at h9; simp [execOp, go_sem, h9, c0]
  ·intro a W hG hR hO hp; have h2 := hO.slot 2 (by kernel_rfl); refine wp_yields (v := .pointer (some ⟨w.heap.size, 0, none⟩)) ?_ ⟨_, rfl, rfl, Below.refl _ _, hG⟩; simp [slotOf] at h2; simp [execOp, go_sem, h2]
  ·intro a W hG hR hO hp; have h11 : slotOf a 11 = .pointer (some ⟨w.heap.size, 0, none⟩) := hp.1; have c0 := keep_cell x0 hG; refine wp_yields (v := vi r.lo) ?_ ⟨_, rfl, rfl, Below.refl _ _, hG⟩; simp [slotOf] at h11; simp [execOp, go_sem, h11, c0]
  ·intro a W hG hR hO hp; have h10 : slotOf a 10 = vi r.hi := hp.1; have h12 : slotOf a 12 = vi r.lo := hp.2.1; refine wp_yields (v := vi dd) ?_ ⟨_, rfl, rfl, Below.refl _ _, hG⟩; simp [slotOf] at h10 h12; simp [execOp, go_sem, h10, h12, e13]
  ·intro a W hG hR hO hp; have h13 : slotOf a 13 = vi dd := hp.1; refine wp_yields (v := vi mm) ?_ ⟨_, rfl, rfl, Below.refl _ _, hG⟩; simp [slotOf] at h13; simp [execOp, go_sem, h13, e14]
  ·intro a W hG hR hO hp; have h8 : slotOf a 8 = vi x := hp.1; have h14 : slotOf a 14 = vi mm := hp.2.1; refine wp_yields (v := vi kc) ?_ ⟨_, rfl, rfl, Below.refl _ _, hG⟩; simp [slotOf] at h8 h14; simp [execOp, go_sem, h8, h14, e15, hm0]
  ·intro a W hG hR hO hp; have h6 : slotOf a 6 = vi r.lo := hp.1; have h15 : slotOf a 15 = vi kc := hp.2.1; refine wp_yields (v := vi vv) ?_ ⟨_, rfl, rfl, Below.refl _ _, hG⟩; simp [slotOf] at h6 h15; simp [execOp, go_sem, h6, h15, e16]
 ·intro wz hG hR
  rintro _ rfl _ rfl _ rfl _ rfl _ rfl _ rfl _ rfl _ rfl _ rfl _ rfl _ rfl _ rfl
  change wpList _ _ _ _ _ _
  simp only [Act.put, List.setIfInBounds_toArray, List.set_cons_zero, List.set_cons_succ, List.drop_succ_cons, List.drop_zero]
  have HE := Lib.hid (newer_trans H0.out.1 hG)
  clear hG hR
  go_wp2_with fail
  go_ret
  exact ⟨vv, rfl, HV.out.1, HV.out.2, HE.out⟩
end

section
open Go.RowKit Go.Shelf Go.Deep
def w3C (f : Nat -> Int) : Array Value := #[.int .u16 (f 0), .int .u16 (f 1), .int .u16 (f 2)]
theorem w3_set (f : Nat -> Int) (v : Int) : ∀ k, k < 3 -> (w3C f).setIfInBounds k (.int .u16 v) = w3C (fun j => if j = k then v else f j)
 | 0, _ => rfl
 | 1, _ => rfl
 | 2, _ => rfl
theorem w3_get (f : Nat -> Int) : ∀ k, k < 3 -> (w3C f)[k]? = some (.int .u16 (f k))
 | 0, _ => rfl
 | 1, _ => rfl
 | 2, _ => rfl
def vRng (r : Rg) (v : Value) (_ : World) : Prop := ∃ n : Int, v = vi n /\ r.lo <= n /\ n <= r.hi
theorem vRng_st {r : Rg} : ∀ v W W', vRng r v W -> newer W W' -> vRng r v W' := fun _ _ _ h _ => h
def vPk (b : Bd) (v : Value) (_ : World) : Prop := ∃ y : Rl, v = rlV y /\ fitB b y = true
theorem vPk_st {b : Bd} : ∀ v W W', vPk b v W -> newer W W' -> vPk b v W' := fun _ _ _ h _ => h
def vOneP (B : Nat) (b : Bd) (v : Value) (W : World) : Prop := ∃ nb y, v = .slice (some ⟨nb, 0, none⟩) 1 1 /\ B <= nb /\ Whole W nb 135 (rlC y) /\ fitB b y = true
theorem vOneP_st {B : Nat} {b : Bd} : ∀ v W W', vOneP B b v W -> newer W W' -> vOneP B b v W' := fun _ _ _ ⟨nb, y, h1, h2, h3, h4⟩ hb => ⟨nb, y, h1, h2, h3.below hb h3.lt, h4⟩
structure PkJ (s : Sm) (u : Su) (bs : List Bd) (k : Nat) (tl : List Rl) (A : Option Addr) (c : Nat) (w W : World) : Prop where
 nw : newer w W
 xb : Whole W w.heap.size 24 (smC s)
 ub : Whole W (w.heap.size + 1) 69 (suC u)
 own : W.ownsRow w.heap.size 135 3 (.slice A k c) k (tl.flatMap rlL)
 ln : tl.length = k
 fit : ∀ i, i < k -> fitB (bs.getD i zeroBd) (tl.getD i ⟨0, 0, 0⟩) = true
theorem PkJ.next {s : Sm} {u : Su} {bs : List Bd} {k : Nat} {tl : List Rl} {A : Option Addr} {c : Nat} {w W W' : World} (h : PkJ s u bs k tl A c w W) (hb : newer W W') : PkJ s u bs k tl A c w W' := ⟨newer_trans h.nw hb, h.xb.below hb h.xb.lt, h.ub.below hb h.ub.lt, own_below h.own hb, h.ln, h.fit⟩
theorem info_rl125 : (Tryz.prog.info? 135).map (fun i => (i.zero, i.size, i.bytes)) = some (some (.agg #[vi 0, vi 0, vi 0]), 3, 24) := by kernel_rfl
set_option maxRecDepth 100000 in
set_option maxHeartbeats 2000000 in
theorem picked_any (s : Sm) (u : Su) (k0 : Nat) (l : List Nat) (ws : List Hlf) (HA : Option Addr) (hc : Nat) (w : World) (hok : SmOk s w) (hs : SdOk s.sd) (hu : SuOk u w) (hf : u.frm = k0) (hl : u.beds = l.map fun x : Nat => (x : Int)) (hsf : SurfB s.sd.n s.cs.length s.sd.K k0 l) (hwr : Row hwL 1 w w.heap.size HA ws) :
  Calls Tryz.prog 23 #[smV s, suV u, .slice HA ws.length hc] w fun e w' => ∃ (tl : List Rl) (A : Option Addr) (c : Nat), e = .returned (.slice A tl.length c) /\ Row rlL 3 w' w'.heap.size A tl /\ fitsA (bedsL s.sd.cols k0 l) tl = true /\ newer w w' := by
 have hcl : s.cs.length <= 12 := by have h1 := hs.cols; rw [sd_len] at h1; omega
 have hul : u.beds.length = l.length := by rw [hl]; simp
 have hll : 1 <= l.length := by have h1 := hsf.1; have h2 := (hd_ok hs false).K0; omega
 obtain ⟨y0, hy0⟩ := get_of_lt (l := s.cs) (k := 0) (by have := hsf.2.1; omega)
 obtain ⟨b1, o1, ea, _, _⟩ := rowC hok.cs hy0
 obtain ⟨b2, o2, eu, _⟩ := row1k hu (k := 0) (by omega)
 have hnw : newer w ((w.alloc (.cells (smC s) 24)).alloc (.cells (suC u) 69)) := newer_trans (newer_allocH _ _) (newer_allocH _ _)
 have hxb := (Whole.made w 24 (smC s)).alloc (.cells (suC u) 69)
 have hub := Whole.made (w.alloc (.cells (smC s) 24)) 69 (suC u)
 rw [World.size_alloc] at hub
 have H0 := Lib.hid (And.intro hnw (And.intro hxb hub))
 have HEA := Lib.hid (And.intro ea eu)
 have HOK := Lib.hid hok
 have HU := Lib.hid hu
 have HSD := Lib.hid hs
 have HSF := Lib.hid (And.intro hsf (And.intro hf (And.intro hl hul)))
 have hkl : k0 + l.length <= s.cs.length := hsf.2.1
 have HWR := Lib.hid hwr
 obtain ⟨i0, hi0, hz0, hz1, hz2⟩ := info_parts info_rl125
 have HI := Lib.hid (And.intro hi0 (And.intro hz0 (And.intro hz1 hz2)))
 obtain ⟨bs, hbs⟩ : ∃ bs, bs = bedsL s.sd.cols k0 l := ⟨_, rfl⟩
 have hbl : bs.length = l.length := by rw [hbs]; exact bedsL_len _ _ _
 have HBS := Lib.hid (And.intro hbs hbl)
 rw [<- hbs]
 clear hok hs hu hsf hf hl hul hnw hxb hub ea eu hy0 hi0 hz0 hz1 hz2 hwr hbs hbl
 go_enter Tryz.func23, Tryz.ntmps23
 go_wp2_with fail
 go_loopw [7, 8] (fun s7 s8 wr => ∃ (k : Nat) (tl : List Rl) (A : Option Addr) (c : Nat), s8 = vi k /\ k <= l.length /\ s7 = .slice A k c /\ PkJ s u bs k tl A c w wr) (fun _ s8 _ => l.length - (intOf s8).toNat)
 case atStart => exact ⟨0, [], none, 0, rfl, Nat.zero_le _, rfl, H0.out.1, H0.out.2.1, H0.out.2.2, ⟨rfl, .inl ⟨rfl, rfl⟩⟩, rfl, fun i h => absurd h (by omega)⟩
 case round =>
  obtain ⟨k, tl, A, c, rfl, hk, rfl, hj⟩ := hrel
  clear H0
  have HJ := Lib.hid hj
  have hn := hj.nw
  have hx := hj.xb
  have hu2 := hj.ub
  clear hj
  have u1 := hu2.at 1 (v := .slice u.a u.beds.length u.c) rfl
  rw [HEA.out.2, HSF.out.2.2.2] at u1
  by_cases hlt : k < l.length
  ·obtain ⟨b, hb⟩ := get_of_lt hlt
   have hbn := way_lt l k b HSF.out.1.2.2 hb
   obtain ⟨kk, hkk0⟩ : ∃ kk, kk = k0 + k := ⟨_, rfl⟩
   obtain ⟨x, hx1, hx2, hx3, hx4⟩ := bdAt_is HSD.out (k := kk) (j := b) (by omega) hbn
   obtain ⟨bd, hbd⟩ : ∃ bd, bd = bdAt s.sd.cols kk b := ⟨_, rfl⟩
   rw [<- hbd] at hx2 hx4
   have HG := Lib.hid (And.intro (show (bedsL s.sd.cols k0 l)[k]? = some bd by rw [hbd, hkk0]; exact bedsL_get _ l k0 k b hb) hx4)
   obtain ⟨b3, o3, e3, _, cx⟩ := rowC (HOK.out.next hn).cs hx1
   rw [HEA.out.1] at e3
   obtain ⟨rfl, rfl⟩ : b1 = b3 /\ o1 = o3 := by simpa using e3
   obtain ⟨b4, o4, e4, _, d0, d1, d2, d3, d4, d5, d6, d7⟩ := row8 ((HOK.out.next hn).bd x (List.mem_of_getElem? hx1)) hx2
   rw [e4] at cx
   obtain ⟨b5, o5, e5, p0⟩ := row1k (HU.out.next hn) (k := k) (by rw [HSF.out.2.2.2]; exact hlt)
   rw [HEA.out.2] at e5
   obtain ⟨rfl, rfl⟩ : b2 = b5 /\ o2 = o5 := by simpa using e5
   have ep : iAt u.beds k = (b : Int) := by rw [HSF.out.2.2.1]; simp [iAt, hb]
   rw [ep] at p0
   have x0 := hx.at 0 (v := .slice s.a s.cs.length s.c) rfl
   rw [HEA.out.1] at x0
   have u0 := hu2.at 0 (v := vi u.frm) rfl
   rw [HSF.out.2.1] at u0
   have u1 := hu2.at 1 (v := .slice u.a u.beds.length u.c) rfl
   rw [HEA.out.2, HSF.out.2.2.2] at u1
   have hkc : (kk : Int) < s.cs.length := by omega
   have hbx : (b : Int) < x.beds.length := by omega
   have hki : (k : Int) < l.length := by omega
   have hk12 : k <= 12 := by omega
   have c22 : IntKind.i64.wrap ((k0 : Int) + (k : Int)) = (kk : Int) := by rw [show (k0 : Int) + k = kk by omega]; exact IntWalk.i64_in _ (by omega)
   clear hkk0 hx1 hx2 hx3 hx4 hbd e3 e4 e5 ep hbn hb
   clear hn hx hu2
   go_upto_region 5 with fail
   refine wp_words (by kernel_rfl) (region_told 16 (by kernel_rfl) (by kernel_rfl) (fun W => Below wr.heap.size wr W) newer (pickD [vIs (.pointer (some ⟨w.heap.size, 0, none⟩)), vIs (.slice (some ⟨b1, o1, none⟩) s.cs.length s.c), vIs (.pointer (some ⟨(w.heap.size + 1), 0, none⟩)), vIs (.int .i64 k0), vIs (.int .i64 k), vIs (.int .i64 kk), vIs (.pointer (some ⟨b1, o1 + kk, none⟩)), vIs (.slice (some ⟨b4, o4, none⟩) x.beds.length x.cp), vIs (.pointer (some ⟨(w.heap.size + 1), 1, none⟩)), vIs (.slice (some ⟨b2, o2, none⟩) l.length u.c), vIs (.int .i64 k), vIs (.pointer (some ⟨b2, o2 + k, none⟩)), vIs (.int .i64 b), vIs (.pointer (some ⟨b4, o4 + b * 8, none⟩)), vIs (bdV bd), vNew wr.heap.size 40 zeroX]) (fun h k => newer_trans h k) (pickD_stable _ ⟨vIs_st, vIs_st, vIs_st, vIs_st, vIs_st, vIs_st, vIs_st, vIs_st, vIs_st, vIs_st, vIs_st, vIs_st, vIs_st, vIs_st, vIs_st, vNew_st, trivial⟩) (Below.refl _ wr).drew (Below.refl _ _) ?_ ?_)
   ·refine ⟨?_, ?_, ?_, ?_, ?_, ?_, ?_, ?_, ?_, ?_, ?_, ?_, ?_, ?_, ?_, ?_, trivial⟩
    ·intro a W hG hR hO hp; have h3 := hO.slot 3 (by kernel_rfl); refine wp_yields (v := .pointer (some ⟨w.heap.size, 0, none⟩)) ?_ ⟨_, rfl, rfl, Below.refl _ _, hG⟩; simp [slotOf] at h3; simp [execOp, go_sem, h3]
    ·intro a W hG hR hO hp; have h19 : slotOf a 19 = .pointer (some ⟨w.heap.size, 0, none⟩) := hp.1; have c0 := keep_cell x0 hG; refine wp_yields (v := .slice (some ⟨b1, o1, none⟩) s.cs.length s.c) ?_ ⟨_, rfl, rfl, Below.refl _ _, hG⟩; simp [slotOf] at h19; simp [execOp, go_sem, h19, c0]
    ·intro a W hG hR hO hp; have h4 := hO.slot 4 (by kernel_rfl); refine wp_yields (v := .pointer (some ⟨(w.heap.size + 1), 0, none⟩)) ?_ ⟨_, rfl, rfl, Below.refl _ _, hG⟩; simp [slotOf] at h4; simp [execOp, go_sem, h4]
    ·intro a W hG hR hO hp; have h21 : slotOf a 21 = .pointer (some ⟨(w.heap.size + 1), 0, none⟩) := hp.1; have c0 := keep_cell u0 hG; refine wp_yields (v := .int .i64 k0) ?_ ⟨_, rfl, rfl, Below.refl _ _, hG⟩; simp [slotOf] at h21; simp [execOp, go_sem, h21, c0]
    ·intro a W hG hR hO hp; have h8 := hO.slot 8 (by kernel_rfl); refine wp_yields (v := .int .i64 k) ?_ ⟨_, rfl, rfl, Below.refl _ _, hG⟩; simp [slotOf] at h8; simp [execOp, go_sem, h8]
    ·intro a W hG hR hO hp; have h22 : slotOf a 22 = .int .i64 k0 := hp.1; have h23 : slotOf a 23 = .int .i64 k := hp.2.1; refine wp_yields (v := .int .i64 kk) ?_ ⟨_, rfl, rfl, Below.refl _ _, hG⟩; simp [slotOf] at h22 h23; simp [execOp, go_sem, h22, h23, c22]
    ·intro a W hG hR hO hp; have h20 : slotOf a 20 = .slice (some ⟨b1, o1, none⟩) s.cs.length s.c := hp.1; have h24 : slotOf a 24 = .int .i64 kk := hp.2.1; refine wp_yields (v := .pointer (some ⟨b1, o1 + kk, none⟩)) ?_ ⟨_, rfl, rfl, Below.refl _ _, hG⟩; simp [slotOf] at h20 h24; simp [execOp, go_sem, h20, h24, hkc]
    ·intro a W hG hR hO hp; have h25 : slotOf a 25 = .pointer (some ⟨b1, o1 + kk, none⟩) := hp.1; have c0 := keep_cell cx hG; refine wp_yields (v := .slice (some ⟨b4, o4, none⟩) x.beds.length x.cp) ?_ ⟨_, rfl, rfl, Below.refl _ _, hG⟩; simp [slotOf] at h25; simp [execOp, go_sem, h25, c0]
    ·intro a W hG hR hO hp; have h4 := hO.slot 4 (by kernel_rfl); refine wp_yields (v := .pointer (some ⟨(w.heap.size + 1), 1, none⟩)) ?_ ⟨_, rfl, rfl, Below.refl _ _, hG⟩; simp [slotOf] at h4; simp [execOp, go_sem, h4]
    ·intro a W hG hR hO hp; have h27 : slotOf a 27 = .pointer (some ⟨(w.heap.size + 1), 1, none⟩) := hp.1; have c0 := keep_cell u1 hG; refine wp_yields (v := .slice (some ⟨b2, o2, none⟩) l.length u.c) ?_ ⟨_, rfl, rfl, Below.refl _ _, hG⟩; simp [slotOf] at h27; simp [execOp, go_sem, h27, c0]
    ·intro a W hG hR hO hp; have h8 := hO.slot 8 (by kernel_rfl); refine wp_yields (v := .int .i64 k) ?_ ⟨_, rfl, rfl, Below.refl _ _, hG⟩; simp [slotOf] at h8; simp [execOp, go_sem, h8]
    ·intro a W hG hR hO hp; have h28 : slotOf a 28 = .slice (some ⟨b2, o2, none⟩) l.length u.c := hp.1; have h29 : slotOf a 29 = .int .i64 k := hp.2.1; refine wp_yields (v := .pointer (some ⟨b2, o2 + k, none⟩)) ?_ ⟨_, rfl, rfl, Below.refl _ _, hG⟩; simp [slotOf] at h28 h29; simp [execOp, go_sem, h28, h29, hki]
    ·intro a W hG hR hO hp; have h30 : slotOf a 30 = .pointer (some ⟨b2, o2 + k, none⟩) := hp.1; have c0 := keep_cell p0 hG; refine wp_yields (v := .int .i64 b) ?_ ⟨_, rfl, rfl, Below.refl _ _, hG⟩; simp [slotOf] at h30; simp [execOp, go_sem, h30, c0]
    ·intro a W hG hR hO hp; have h26 : slotOf a 26 = .slice (some ⟨b4, o4, none⟩) x.beds.length x.cp := hp.1; have h31 : slotOf a 31 = .int .i64 b := hp.2.1; refine wp_yields (v := .pointer (some ⟨b4, o4 + b * 8, none⟩)) ?_ ⟨_, rfl, rfl, Below.refl _ _, hG⟩; simp [slotOf] at h26 h31; simp [execOp, go_sem, h26, h31, hbx]
    ·intro a W hG hR hO hp; have h32 : slotOf a 32 = .pointer (some ⟨b4, o4 + b * 8, none⟩) := hp.1; have c0 := keep_cell d0 hG; have c1 := keep_cell d1 hG; have c2 := keep_cell d2 hG; have c3 := keep_cell d3 hG; have c4 := keep_cell d4 hG; have c5 := keep_cell d5 hG; have c6 := keep_cell d6 hG; have c7 := keep_cell d7 hG; refine wp_yields (v := bdV bd) ?_ ⟨_, rfl, rfl, Below.refl _ _, hG⟩; simp [slotOf] at h32; simp [execOp, go_sem, h32, c0, c1, c2, c3, c4, c5, c6, c7]
    ·intro a W hG hR hO hp; refine wp_makes (v := .pointer (some ⟨W.heap.size, 0, none⟩)) (W' := W.alloc (.cells zeroX 40)) ?_ ⟨_, rfl, ⟨_, rfl, hG.size, Whole.made _ _ _⟩, newer_allocH _ _, below_next hG (newer_allocH _ _)⟩; skip; simp [execOp, go_sem, zeroX]
   ·intro wz hG hR
    rintro _ rfl _ rfl _ rfl _ rfl _ rfl _ rfl _ rfl _ rfl _ rfl _ rfl _ rfl _ rfl _ rfl _ rfl _ rfl _ ⟨g, rfl, hg, hW⟩
    change wpList _ _ _ _ _ _
    simp only [Act.put, List.setIfInBounds_toArray, List.set_cons_zero, List.set_cons_succ, List.drop_succ_cons, List.drop_zero]
    have hbox := (put8 hW bd)
    have hgr := (put8_grown wz g bd)
    have HB5 : Hid (newer wr ((((((((wz.setCell ⟨g, 0, none⟩ (vi bd.drive)).setCell ⟨g, 1, none⟩ (vi bd.normal)).setCell ⟨g, 2, none⟩ (vi bd.fr.lo)).setCell ⟨g, 3, none⟩ (vi bd.fr.hi)).setCell ⟨g, 4, none⟩ (vi bd.co.lo)).setCell ⟨g, 5, none⟩ (vi bd.co.hi)).setCell ⟨g, 6, none⟩ (vi bd.wa.lo)).setCell ⟨g, 7, none⟩ (vi bd.wa.hi)) /\ Whole ((((((((wz.setCell ⟨g, 0, none⟩ (vi bd.drive)).setCell ⟨g, 1, none⟩ (vi bd.normal)).setCell ⟨g, 2, none⟩ (vi bd.fr.lo)).setCell ⟨g, 3, none⟩ (vi bd.fr.hi)).setCell ⟨g, 4, none⟩ (vi bd.co.lo)).setCell ⟨g, 5, none⟩ (vi bd.co.hi)).setCell ⟨g, 6, none⟩ (vi bd.wa.lo)).setCell ⟨g, 7, none⟩ (vi bd.wa.hi)) g 40 (bdC bd)) := Lib.hid ⟨Below.trans hG (below_of_grown hgr hg hG.size), hbox⟩
    have e0 := hW.at 0 (v := vi 0) rfl
    have f0 := hW.free 0
    have e1 := hW.at 1 (v := vi 0) rfl
    have f1 := hW.free 1
    have e2 := hW.at 2 (v := vi 0) rfl
    have f2 := hW.free 2
    have e3 := hW.at 3 (v := vi 0) rfl
    have f3 := hW.free 3
    have e4 := hW.at 4 (v := vi 0) rfl
    have f4 := hW.free 4
    have e5 := hW.at 5 (v := vi 0) rfl
    have f5 := hW.free 5
    have e6 := hW.at 6 (v := vi 0) rfl
    have f6 := hW.free 6
    have e7 := hW.at 7 (v := vi 0) rfl
    have f7 := hW.free 7
    clear hbox hgr hG hR hW x0 u0 u1 cx p0 d0 d1 d2 d3 d4 d5 d6 d7 c22
    go_upto_region 6 with fail
    refine genQ (fun X => newer wr X /\ Whole X g 40 (bdC bd)) HB5.out ?_
    clear HB5 e0 e1 e2 e3 e4 e5 e6 e7 f0 f1 f2 f3 f4 f5 f6 f7 wz
    rintro w6 ⟨q1, q2⟩
    have e7 := newer_allocH w6 (.cells #[.int .u16 0, .int .u16 0, .int .u16 0] 136)
    have H6 := Lib.hid (And.intro (HJ.out.next (newer_trans q1 e7)) (And.intro (q2.below e7 q2.lt) (Whole.made w6 136 #[.int .u16 0, .int .u16 0, .int .u16 0])))
    obtain ⟨ab, hab⟩ : ∃ ab, ab = w6.heap.size := ⟨_, rfl⟩
    have HLO : Hid (w.heap.size <= ab) := Lib.hid (by rw [hab]; exact (newer_trans HJ.out.nw q1).size)
    have hge : bs.getD k zeroBd = bd := by simp [List.getD, HBS.out.1, HG.out.1]
    have HGE := Lib.hid hge
    clear q1 q2 e7 HJ hge
    go_wp2_with fail
    rw [<- hab] at H6 ⊢
    clear hab
    go_loopw [11] (fun s11 wr => ∃ (j : Nat) (f : Nat -> Int), j <= 3 /\ s11 = vi j /\ (∀ i, 0 <= f i /\ f i <= 65535) /\ PkJ s u bs k tl A c w wr /\ Whole wr g 40 (bdC bd) /\ Whole wr ab 136 (w3C f)) (fun s11 _ => 3 - (intOf s11).toNat)
    case atStart => exact ⟨0, fun _ => 0, by omega, rfl, fun i => ⟨Int.le_refl _, by show (0 : Int) <= 65535; omega⟩, H6.out.1, H6.out.2.1, H6.out.2.2⟩
    case round =>
     obtain ⟨j, f, hj3, rfl, hfb, p1, p2, p3⟩ := hrel
     clear H6
     have HFB := Lib.hid hfb
     have HQ := Lib.hid (And.intro p1 (And.intro p2 p3))
     clear hfb p1 p2 p3
     obtain ⟨wx, rfl⟩ : ∃ wx : World, wx = wr := ⟨_, rfl⟩
     have fin : Hid (j = 3 ∨ ws = [] -> True) := Lib.hid (fun _ => trivial)
     by_cases hgo : j < 3 /\ ws ≠ []
     ·obtain ⟨hj2, hwn⟩ := hgo
      have hl0 : 0 < ws.length := List.length_pos_iff.2 hwn
      have hl0i : (0 : Int) < ws.length := by omega
      have hj2i : (j : Int) < 3 := by omega
      obtain ⟨a3, ha3⟩ : ∃ a : Nat, a = 3 * k + j := ⟨_, rfl⟩
      obtain ⟨r, hr⟩ : ∃ r, r = a3 % ws.length := ⟨_, rfl⟩
      have hrl : r < ws.length := by rw [hr]; exact Nat.mod_lt _ hl0
      have hrn : (r : Int) < ws.length := by omega
      have em : IntKind.i64.wrap (3 * (k : Int)) = 3 * (k : Int) := IntWalk.i64_in _ (by omega)
      have ea : IntKind.i64.wrap (3 * (k : Int) + j) = a3 := by rw [show (a3 : Int) = 3 * (k : Int) + j by omega]; exact IntWalk.i64_in _ (by omega)
      have er : (a3 : Int).tmod ws.length = r := by rw [hr, Int.tmod_eq_emod_of_nonneg (by omega)]; exact (Int.natCast_emod _ _).symm
      have hcz : ¬ ((ws.length : Int) = 0) := by omega
      have hwb : ¬ (ws = []) := hwn
      obtain ⟨y, hy⟩ := get_of_lt hrl
      obtain ⟨hb1, ho1, eh, _, cb⟩ := row_half (HWR.out.below HQ.out.1.nw) hy
      have v0 := HQ.out.2.2.at j (w3_get f j hj2)
      have vf := HQ.out.2.2.free j
      have HS : Hid (PkJ s u bs k tl A c w (wx.setCell ⟨ab, j, none⟩ (.int .u16 y.n)) /\ Whole (wx.setCell ⟨ab, j, none⟩ (.int .u16 y.n)) g 40 (bdC bd) /\ Whole (wx.setCell ⟨ab, j, none⟩ (.int .u16 y.n)) ab 136 (w3C fun i => if i = j then y.n else f i)) := Lib.hid (by
       have hne : w.heap.size ≠ ab := HQ.out.1.xb.ne HQ.out.2.2 (by decide)
       have hne1 : w.heap.size + 1 ≠ ab := HQ.out.1.ub.ne HQ.out.2.2 (by decide)
       have hne2 : g ≠ ab := HQ.out.2.1.ne HQ.out.2.2 (by decide)
       have h3 := HQ.out.2.2.set j (.int .u16 y.n)
       rw [w3_set f y.n j hj2] at h3
       exact ⟨⟨HQ.out.1.nw.setCell (p := ⟨ab, j, none⟩) HLO.out _, HQ.out.1.xb.far (p := ⟨ab, j, none⟩) hne _, HQ.out.1.ub.far (p := ⟨ab, j, none⟩) hne1 _, own_set HQ.out.1.own (own_ne HQ.out.1.own HQ.out.2.2 (by decide)) _, HQ.out.1.ln, HQ.out.1.fit⟩, HQ.out.2.1.far (p := ⟨ab, j, none⟩) hne2 _, h3⟩)
      have HYB := Lib.hid (And.intro y.lo y.hi)
      have HEH := Lib.hid eh
      subst eh
      clear hwn hr ha3 hy
      go_wp2_with fail
      refine ⟨⟨j + 1, fun i => if i = j then y.n else f i, by omega, rfl, fun i => ?_, HS.out.1, HS.out.2.1, HS.out.2.2⟩, ?_⟩
      ·dsimp only
       by_cases h : i = j
       ·rw [if_pos h]; exact HYB.out
       ·rw [if_neg h]; exact HFB.out i
      ·simp [intOf]
       omega
     ·have hex : j < 3 -> ¬ ((0 : Int) < ws.length) := fun h => by
       have : ws = [] := Classical.byContradiction fun h2 => hgo ⟨h, h2⟩
       rw [this]
       simp
      have HP0 := Lib.hid (fun W => pick_any bd.fr (f 0) W (HFB.out 0).1 (HFB.out 0).2 (bdB_parts HG.out.2).2.2.1.1 (bdB_parts HG.out.2).2.2.1.2.1 (by have := (bdB_parts HG.out.2).2.2.1.2.2; omega))
      have HP1 := Lib.hid (fun W => pick_any bd.co (f 1) W (HFB.out 1).1 (HFB.out 1).2 (bdB_parts HG.out.2).2.2.2.1.1 (bdB_parts HG.out.2).2.2.2.1.2.1 (bdB_parts HG.out.2).2.2.2.1.2.2)
      have HP2 := Lib.hid (fun W => pick_any bd.wa (f 2) W (HFB.out 2).1 (HFB.out 2).2 (bdB_parts HG.out.2).2.2.2.2.1 (bdB_parts HG.out.2).2.2.2.2.2.1 (bdB_parts HG.out.2).2.2.2.2.2.2)
      have z2 := HQ.out.2.1.at 2 (v := vi bd.fr.lo) rfl
      have z3 := HQ.out.2.1.at 3 (v := vi bd.fr.hi) rfl
      have z4 := HQ.out.2.1.at 4 (v := vi bd.co.lo) rfl
      have z5 := HQ.out.2.1.at 5 (v := vi bd.co.hi) rfl
      have z6 := HQ.out.2.1.at 6 (v := vi bd.wa.lo) rfl
      have z7 := HQ.out.2.1.at 7 (v := vi bd.wa.hi) rfl
      have v0 := HQ.out.2.2.at 0 (w3_get f 0 (by omega))
      have v1 := HQ.out.2.2.at 1 (w3_get f 1 (by omega))
      have v2 := HQ.out.2.2.at 2 (w3_get f 2 (by omega))
      clear hgo fin
      by_cases hj4 : j < 3
      ·have hj5 : (j : Int) < 3 := by omega
       have hex2 := hex hj4
       clear hex
       go_upto_region 11 with fail
       refine wp_words (by kernel_rfl) (region_told 18 (by kernel_rfl) (by kernel_rfl) (fun W => Below wx.heap.size wx W) newer (pickD [vIs (.slice A k c), vIs (.pointer (some ⟨g, 2, none⟩)), vIs (rgV bd.fr), vIs (.pointer (some ⟨ab, 0, none⟩)), vIs (.int .u16 (f 0)), vRng bd.fr, vIs (.pointer (some ⟨g, 4, none⟩)), vIs (rgV bd.co), vIs (.pointer (some ⟨ab, 1, none⟩)), vIs (.int .u16 (f 1)), vRng bd.co, vIs (.pointer (some ⟨g, 6, none⟩)), vIs (rgV bd.wa), vIs (.pointer (some ⟨ab, 2, none⟩)), vIs (.int .u16 (f 2)), vRng bd.wa, vPk bd, vOneP wx.heap.size bd]) (fun h k => newer_trans h k) (pickD_stable _ ⟨vIs_st, vIs_st, vIs_st, vIs_st, vIs_st, vRng_st, vIs_st, vIs_st, vIs_st, vIs_st, vRng_st, vIs_st, vIs_st, vIs_st, vIs_st, vRng_st, vPk_st, vOneP_st, trivial⟩) (Below.refl _ wx).drew (Below.refl _ _) ?_ ?_)
       ·refine ⟨?_, ?_, ?_, ?_, ?_, ?_, ?_, ?_, ?_, ?_, ?_, ?_, ?_, ?_, ?_, ?_, ?_, ?_, trivial⟩
        ·intro a W hG hR hO hp; have h7 := hO.slot 7 (by kernel_rfl); refine wp_yields (v := .slice A k c) ?_ ⟨_, rfl, rfl, Below.refl _ _, hG⟩; simp [slotOf] at h7; simp [execOp, go_sem, h7]
        ·intro a W hG hR hO hp; have h9 := hO.slot 9 (by kernel_rfl); refine wp_yields (v := .pointer (some ⟨g, 2, none⟩)) ?_ ⟨_, rfl, rfl, Below.refl _ _, hG⟩; simp [slotOf] at h9; simp [execOp, go_sem, h9]
        ·intro a W hG hR hO hp; have h56 : slotOf a 56 = .pointer (some ⟨g, 2, none⟩) := hp.1; have c0 := keep_cell z2 hG; have c1 := keep_cell z3 hG; refine wp_yields (v := rgV bd.fr) ?_ ⟨_, rfl, rfl, Below.refl _ _, hG⟩; simp [slotOf] at h56; simp [execOp, go_sem, h56, c0, c1]
        ·intro a W hG hR hO hp; have h10 := hO.slot 10 (by kernel_rfl); refine wp_yields (v := .pointer (some ⟨ab, 0, none⟩)) ?_ ⟨_, rfl, rfl, Below.refl _ _, hG⟩; simp [slotOf] at h10; simp [execOp, go_sem, h10]
        ·intro a W hG hR hO hp; have h58 : slotOf a 58 = .pointer (some ⟨ab, 0, none⟩) := hp.1; have c0 := keep_cell v0 hG; refine wp_yields (v := .int .u16 (f 0)) ?_ ⟨_, rfl, rfl, Below.refl _ _, hG⟩; simp [slotOf] at h58; simp [execOp, go_sem, h58, c0]
        ·intro a W hG hR hO hp
         have h57 : slotOf a 57 = rgV bd.fr := hp.1
         have h59 : slotOf a 59 = .int .u16 (f 0) := hp.2.1
         refine wp_enters (f := 55) (args := #[rgV bd.fr, .int .u16 (f 0)]) ?_ ((HP0.out W).mono ?_)
         ·simp [slotOf] at h57 h59
          simp [go_sem, h57, h59]
         ·rintro e w' ⟨n, rfl, h1, h2, hb⟩
          exact ⟨_, rfl, _, rfl, ⟨n, rfl, h1, h2⟩, hb, below_next hG hb⟩
        ·intro a W hG hR hO hp; have h9 := hO.slot 9 (by kernel_rfl); refine wp_yields (v := .pointer (some ⟨g, 4, none⟩)) ?_ ⟨_, rfl, rfl, Below.refl _ _, hG⟩; simp [slotOf] at h9; simp [execOp, go_sem, h9]
        ·intro a W hG hR hO hp; have h61 : slotOf a 61 = .pointer (some ⟨g, 4, none⟩) := hp.1; have c0 := keep_cell z4 hG; have c1 := keep_cell z5 hG; refine wp_yields (v := rgV bd.co) ?_ ⟨_, rfl, rfl, Below.refl _ _, hG⟩; simp [slotOf] at h61; simp [execOp, go_sem, h61, c0, c1]
        ·intro a W hG hR hO hp; have h10 := hO.slot 10 (by kernel_rfl); refine wp_yields (v := .pointer (some ⟨ab, 1, none⟩)) ?_ ⟨_, rfl, rfl, Below.refl _ _, hG⟩; simp [slotOf] at h10; simp [execOp, go_sem, h10]
        ·intro a W hG hR hO hp; have h63 : slotOf a 63 = .pointer (some ⟨ab, 1, none⟩) := hp.1; have c0 := keep_cell v1 hG; refine wp_yields (v := .int .u16 (f 1)) ?_ ⟨_, rfl, rfl, Below.refl _ _, hG⟩; simp [slotOf] at h63; simp [execOp, go_sem, h63, c0]
        ·intro a W hG hR hO hp
         have h62 : slotOf a 62 = rgV bd.co := hp.1
         have h64 : slotOf a 64 = .int .u16 (f 1) := hp.2.1
         refine wp_enters (f := 55) (args := #[rgV bd.co, .int .u16 (f 1)]) ?_ ((HP1.out W).mono ?_)
         ·simp [slotOf] at h62 h64
          simp [go_sem, h62, h64]
         ·rintro e w' ⟨n, rfl, h1, h2, hb⟩
          exact ⟨_, rfl, _, rfl, ⟨n, rfl, h1, h2⟩, hb, below_next hG hb⟩
        ·intro a W hG hR hO hp; have h9 := hO.slot 9 (by kernel_rfl); refine wp_yields (v := .pointer (some ⟨g, 6, none⟩)) ?_ ⟨_, rfl, rfl, Below.refl _ _, hG⟩; simp [slotOf] at h9; simp [execOp, go_sem, h9]
        ·intro a W hG hR hO hp; have h66 : slotOf a 66 = .pointer (some ⟨g, 6, none⟩) := hp.1; have c0 := keep_cell z6 hG; have c1 := keep_cell z7 hG; refine wp_yields (v := rgV bd.wa) ?_ ⟨_, rfl, rfl, Below.refl _ _, hG⟩; simp [slotOf] at h66; simp [execOp, go_sem, h66, c0, c1]
        ·intro a W hG hR hO hp; have h10 := hO.slot 10 (by kernel_rfl); refine wp_yields (v := .pointer (some ⟨ab, 2, none⟩)) ?_ ⟨_, rfl, rfl, Below.refl _ _, hG⟩; simp [slotOf] at h10; simp [execOp, go_sem, h10]
        ·intro a W hG hR hO hp; have h68 : slotOf a 68 = .pointer (some ⟨ab, 2, none⟩) := hp.1; have c0 := keep_cell v2 hG; refine wp_yields (v := .int .u16 (f 2)) ?_ ⟨_, rfl, rfl, Below.refl _ _, hG⟩; simp [slotOf] at h68; simp [execOp, go_sem, h68, c0]
        ·intro a W hG hR hO hp
         have h67 : slotOf a 67 = rgV bd.wa := hp.1
         have h69 : slotOf a 69 = .int .u16 (f 2) := hp.2.1
         refine wp_enters (f := 55) (args := #[rgV bd.wa, .int .u16 (f 2)]) ?_ ((HP2.out W).mono ?_)
         ·simp [slotOf] at h67 h69
          simp [go_sem, h67, h69]
         ·rintro e w' ⟨n, rfl, h1, h2, hb⟩
          exact ⟨_, rfl, _, rfl, ⟨n, rfl, h1, h2⟩, hb, below_next hG hb⟩
        ·intro a W hG hR hO hp; have h60 := hp.1; have h65 := hp.2.1; have h70 := hp.2.2.1; obtain ⟨n0, h60, g1, g2⟩ := h60; obtain ⟨n1, h65, g3, g4⟩ := h65; obtain ⟨n2, h70, g5, g6⟩ := h70; refine wp_yields (v := rlV ⟨n0, n1, n2⟩) ?_ ⟨_, rfl, ⟨⟨n0, n1, n2⟩, rfl, by simp [fitB, inB]; omega⟩, Below.refl _ _, hG⟩; simp [slotOf] at h60 h65 h70; simp [execOp, go_sem, h60, h65, h70]
        ·intro a W hG hR hO hp; have h71 := hp.1; obtain ⟨y, h71, hy⟩ := h71; refine wp_makes (v := .slice (some ⟨W.heap.size, 0, none⟩) 1 1) (W' := W.alloc (.cells (rlC y) 135)) ?_ ⟨_, rfl, ⟨_, y, rfl, hG.size, Whole.made _ _ _, hy⟩, newer_allocH _ _, below_next hG (newer_allocH _ _)⟩; simp [slotOf] at h71; simp [execOp, go_sem, h71]
       ·intro wy hG hR
        rintro _ rfl _ rfl _ rfl _ rfl _ rfl _ - _ rfl _ rfl _ rfl _ rfl _ - _ rfl _ rfl _ rfl _ rfl _ - _ - _ ⟨nb, y, rfl, hnb, hW, hyf⟩
        change wpList _ _ _ _ _ _
        simp only [Act.put, List.setIfInBounds_toArray, List.set_cons_zero, List.set_cons_succ, List.drop_succ_cons, List.drop_zero]
        have HO := Lib.hid (own_below HQ.out.1.own hG)
        have HN := Lib.hid (HQ.out.1.next hG)
        have HWN := Lib.hid (World.news_of_block hW)
        have HYF := Lib.hid hyf
        clear hG hR hW z2 z3 z4 z5 z6 z7 v0 v1 v2 hyf HP0 HP1 HP2
        go_wp2_with (at_builtin; go_loud ((refine wpList_append_lies _ rfl (.tmp 55) (.tmp 72) 76 rfl w.heap.size 135 i0 (.agg #[vi 0, vi 0, vi 0]) 3 24 Tryz.underlying76 HI.out.1 HI.out.2.1 HI.out.2.2.1 HI.out.2.2.2 rfl (by omega) _ k _ rfl HO.out ⟨nb, 0, none⟩ 1 1 (rlL y) rfl rfl HWN.out (by simp [Value.oneCell']) (by omega) (by unfold maxLen; omega) (by omega) HN.out.nw.size wy.heap.size rfl ?_); intro gg cp2 w2 hown2 hgrow2 hat2 hlt2; have HE := Lib.hid (And.intro hown2 (And.intro hgrow2 (own_ge HO.out))); clear hown2 hgrow2 hat2 hlt2))
        refine ⟨⟨k + 1, tl ++ [y], some ⟨gg, 0, none⟩, cp2, rfl, by omega, rfl, ?_, ?_, ?_, ?_, ?_, ?_⟩, ?_⟩
        ·exact below_grown (grown_trans' (grown_of_newer HN.out.nw _) HE.out.2.1) HE.out.2.2 (Nat.le_refl _)
        ·exact HN.out.xb.grown HE.out.2.1 (fun e => own_ne HO.out HN.out.xb (by decide) e.symm)
        ·exact HN.out.ub.grown HE.out.2.1 (fun e => own_ne HO.out HN.out.ub (by decide) e.symm)
        ·rw [List.flatMap_append, List.flatMap_singleton]
         exact HE.out.1
        ·rw [List.length_append, HN.out.ln]; rfl
        ·intro i hi
         by_cases h : i = k
         ·rw [h, HGE.out]
          have e9 : (tl ++ [y]).getD k ⟨0, 0, 0⟩ = y := by simp [List.getD, <- HN.out.ln]
          rw [e9]
          exact HYF.out
         ·have h1 := HN.out.fit i (by omega)
          have e9 : (tl ++ [y]).getD i ⟨0, 0, 0⟩ = tl.getD i ⟨0, 0, 0⟩ := by simp [List.getD, List.getElem?_append_left (show i < tl.length by rw [HN.out.ln]; omega)]
          rw [e9]
          exact h1
        ·simp [intOf]
         omega
      ·have hj5 : ¬ ((j : Int) < 3) := by omega
       clear hex
       go_upto_region 11 with fail
       refine wp_words (by kernel_rfl) (region_told 18 (by kernel_rfl) (by kernel_rfl) (fun W => Below wx.heap.size wx W) newer (pickD [vIs (.slice A k c), vIs (.pointer (some ⟨g, 2, none⟩)), vIs (rgV bd.fr), vIs (.pointer (some ⟨ab, 0, none⟩)), vIs (.int .u16 (f 0)), vRng bd.fr, vIs (.pointer (some ⟨g, 4, none⟩)), vIs (rgV bd.co), vIs (.pointer (some ⟨ab, 1, none⟩)), vIs (.int .u16 (f 1)), vRng bd.co, vIs (.pointer (some ⟨g, 6, none⟩)), vIs (rgV bd.wa), vIs (.pointer (some ⟨ab, 2, none⟩)), vIs (.int .u16 (f 2)), vRng bd.wa, vPk bd, vOneP wx.heap.size bd]) (fun h k => newer_trans h k) (pickD_stable _ ⟨vIs_st, vIs_st, vIs_st, vIs_st, vIs_st, vRng_st, vIs_st, vIs_st, vIs_st, vIs_st, vRng_st, vIs_st, vIs_st, vIs_st, vIs_st, vRng_st, vPk_st, vOneP_st, trivial⟩) (Below.refl _ wx).drew (Below.refl _ _) ?_ ?_)
       ·refine ⟨?_, ?_, ?_, ?_, ?_, ?_, ?_, ?_, ?_, ?_, ?_, ?_, ?_, ?_, ?_, ?_, ?_, ?_, trivial⟩
        ·intro a W hG hR hO hp; have h7 := hO.slot 7 (by kernel_rfl); refine wp_yields (v := .slice A k c) ?_ ⟨_, rfl, rfl, Below.refl _ _, hG⟩; simp [slotOf] at h7; simp [execOp, go_sem, h7]
        ·intro a W hG hR hO hp; have h9 := hO.slot 9 (by kernel_rfl); refine wp_yields (v := .pointer (some ⟨g, 2, none⟩)) ?_ ⟨_, rfl, rfl, Below.refl _ _, hG⟩; simp [slotOf] at h9; simp [execOp, go_sem, h9]
        ·intro a W hG hR hO hp; have h56 : slotOf a 56 = .pointer (some ⟨g, 2, none⟩) := hp.1; have c0 := keep_cell z2 hG; have c1 := keep_cell z3 hG; refine wp_yields (v := rgV bd.fr) ?_ ⟨_, rfl, rfl, Below.refl _ _, hG⟩; simp [slotOf] at h56; simp [execOp, go_sem, h56, c0, c1]
        ·intro a W hG hR hO hp; have h10 := hO.slot 10 (by kernel_rfl); refine wp_yields (v := .pointer (some ⟨ab, 0, none⟩)) ?_ ⟨_, rfl, rfl, Below.refl _ _, hG⟩; simp [slotOf] at h10; simp [execOp, go_sem, h10]
        ·intro a W hG hR hO hp; have h58 : slotOf a 58 = .pointer (some ⟨ab, 0, none⟩) := hp.1; have c0 := keep_cell v0 hG; refine wp_yields (v := .int .u16 (f 0)) ?_ ⟨_, rfl, rfl, Below.refl _ _, hG⟩; simp [slotOf] at h58; simp [execOp, go_sem, h58, c0]
        ·intro a W hG hR hO hp
         have h57 : slotOf a 57 = rgV bd.fr := hp.1
         have h59 : slotOf a 59 = .int .u16 (f 0) := hp.2.1
         refine wp_enters (f := 55) (args := #[rgV bd.fr, .int .u16 (f 0)]) ?_ ((HP0.out W).mono ?_)
         ·simp [slotOf] at h57 h59
          simp [go_sem, h57, h59]
         ·rintro e w' ⟨n, rfl, h1, h2, hb⟩
          exact ⟨_, rfl, _, rfl, ⟨n, rfl, h1, h2⟩, hb, below_next hG hb⟩
        ·intro a W hG hR hO hp; have h9 := hO.slot 9 (by kernel_rfl); refine wp_yields (v := .pointer (some ⟨g, 4, none⟩)) ?_ ⟨_, rfl, rfl, Below.refl _ _, hG⟩; simp [slotOf] at h9; simp [execOp, go_sem, h9]
        ·intro a W hG hR hO hp; have h61 : slotOf a 61 = .pointer (some ⟨g, 4, none⟩) := hp.1; have c0 := keep_cell z4 hG; have c1 := keep_cell z5 hG; refine wp_yields (v := rgV bd.co) ?_ ⟨_, rfl, rfl, Below.refl _ _, hG⟩; simp [slotOf] at h61; simp [execOp, go_sem, h61, c0, c1]
        ·intro a W hG hR hO hp; have h10 := hO.slot 10 (by kernel_rfl); refine wp_yields (v := .pointer (some ⟨ab, 1, none⟩)) ?_ ⟨_, rfl, rfl, Below.refl _ _, hG⟩; simp [slotOf] at h10; simp [execOp, go_sem, h10]
        ·intro a W hG hR hO hp; have h63 : slotOf a 63 = .pointer (some ⟨ab, 1, none⟩) := hp.1; have c0 := keep_cell v1 hG; refine wp_yields (v := .int .u16 (f 1)) ?_ ⟨_, rfl, rfl, Below.refl _ _, hG⟩; simp [slotOf] at h63; simp [execOp, go_sem, h63, c0]
        ·intro a W hG hR hO hp
         have h62 : slotOf a 62 = rgV bd.co := hp.1
         have h64 : slotOf a 64 = .int .u16 (f 1) := hp.2.1
         refine wp_enters (f := 55) (args := #[rgV bd.co, .int .u16 (f 1)]) ?_ ((HP1.out W).mono ?_)
         ·simp [slotOf] at h62 h64
          simp [go_sem, h62, h64]
         ·rintro e w' ⟨n, rfl, h1, h2, hb⟩
          exact ⟨_, rfl, _, rfl, ⟨n, rfl, h1, h2⟩, hb, below_next hG hb⟩
        ·intro a W hG hR hO hp; have h9 := hO.slot 9 (by kernel_rfl); refine wp_yields (v := .pointer (some ⟨g, 6, none⟩)) ?_ ⟨_, rfl, rfl, Below.refl _ _, hG⟩; simp [slotOf] at h9; simp [execOp, go_sem, h9]
        ·intro a W hG hR hO hp; have h66 : slotOf a 66 = .pointer (some ⟨g, 6, none⟩) := hp.1; have c0 := keep_cell z6 hG; have c1 := keep_cell z7 hG; refine wp_yields (v := rgV bd.wa) ?_ ⟨_, rfl, rfl, Below.refl _ _, hG⟩; simp [slotOf] at h66; simp [execOp, go_sem, h66, c0, c1]
        ·intro a W hG hR hO hp; have h10 := hO.slot 10 (by kernel_rfl); refine wp_yields (v := .pointer (some ⟨ab, 2, none⟩)) ?_ ⟨_, rfl, rfl, Below.refl _ _, hG⟩; simp [slotOf] at h10; simp [execOp, go_sem, h10]
        ·intro a W hG hR hO hp; have h68 : slotOf a 68 = .pointer (some ⟨ab, 2, none⟩) := hp.1; have c0 := keep_cell v2 hG; refine wp_yields (v := .int .u16 (f 2)) ?_ ⟨_, rfl, rfl, Below.refl _ _, hG⟩; simp [slotOf] at h68; simp [execOp, go_sem, h68, c0]
        ·intro a W hG hR hO hp
         have h67 : slotOf a 67 = rgV bd.wa := hp.1
         have h69 : slotOf a 69 = .int .u16 (f 2) := hp.2.1
         refine wp_enters (f := 55) (args := #[rgV bd.wa, .int .u16 (f 2)]) ?_ ((HP2.out W).mono ?_)
         ·simp [slotOf] at h67 h69
          simp [go_sem, h67, h69]
         ·rintro e w' ⟨n, rfl, h1, h2, hb⟩
          exact ⟨_, rfl, _, rfl, ⟨n, rfl, h1, h2⟩, hb, below_next hG hb⟩
        ·intro a W hG hR hO hp; have h60 := hp.1; have h65 := hp.2.1; have h70 := hp.2.2.1; obtain ⟨n0, h60, g1, g2⟩ := h60; obtain ⟨n1, h65, g3, g4⟩ := h65; obtain ⟨n2, h70, g5, g6⟩ := h70; refine wp_yields (v := rlV ⟨n0, n1, n2⟩) ?_ ⟨_, rfl, ⟨⟨n0, n1, n2⟩, rfl, by simp [fitB, inB]; omega⟩, Below.refl _ _, hG⟩; simp [slotOf] at h60 h65 h70; simp [execOp, go_sem, h60, h65, h70]
        ·intro a W hG hR hO hp; have h71 := hp.1; obtain ⟨y, h71, hy⟩ := h71; refine wp_makes (v := .slice (some ⟨W.heap.size, 0, none⟩) 1 1) (W' := W.alloc (.cells (rlC y) 135)) ?_ ⟨_, rfl, ⟨_, y, rfl, hG.size, Whole.made _ _ _, hy⟩, newer_allocH _ _, below_next hG (newer_allocH _ _)⟩; simp [slotOf] at h71; simp [execOp, go_sem, h71]
       ·intro wy hG hR
        rintro _ rfl _ rfl _ rfl _ rfl _ rfl _ - _ rfl _ rfl _ rfl _ rfl _ - _ rfl _ rfl _ rfl _ rfl _ - _ - _ ⟨nb, y, rfl, hnb, hW, hyf⟩
        change wpList _ _ _ _ _ _
        simp only [Act.put, List.setIfInBounds_toArray, List.set_cons_zero, List.set_cons_succ, List.drop_succ_cons, List.drop_zero]
        have HO := Lib.hid (own_below HQ.out.1.own hG)
        have HN := Lib.hid (HQ.out.1.next hG)
        have HWN := Lib.hid (World.news_of_block hW)
        have HYF := Lib.hid hyf
        clear hG hR hW z2 z3 z4 z5 z6 z7 v0 v1 v2 hyf HP0 HP1 HP2
        go_wp2_with (at_builtin; go_loud ((refine wpList_append_lies _ rfl (.tmp 55) (.tmp 72) 76 rfl w.heap.size 135 i0 (.agg #[vi 0, vi 0, vi 0]) 3 24 Tryz.underlying76 HI.out.1 HI.out.2.1 HI.out.2.2.1 HI.out.2.2.2 rfl (by omega) _ k _ rfl HO.out ⟨nb, 0, none⟩ 1 1 (rlL y) rfl rfl HWN.out (by simp [Value.oneCell']) (by omega) (by unfold maxLen; omega) (by omega) HN.out.nw.size wy.heap.size rfl ?_); intro gg cp2 w2 hown2 hgrow2 hat2 hlt2; have HE := Lib.hid (And.intro hown2 (And.intro hgrow2 (own_ge HO.out))); clear hown2 hgrow2 hat2 hlt2))
        refine ⟨⟨k + 1, tl ++ [y], some ⟨gg, 0, none⟩, cp2, rfl, by omega, rfl, ?_, ?_, ?_, ?_, ?_, ?_⟩, ?_⟩
        ·exact below_grown (grown_trans' (grown_of_newer HN.out.nw _) HE.out.2.1) HE.out.2.2 (Nat.le_refl _)
        ·exact HN.out.xb.grown HE.out.2.1 (fun e => own_ne HO.out HN.out.xb (by decide) e.symm)
        ·exact HN.out.ub.grown HE.out.2.1 (fun e => own_ne HO.out HN.out.ub (by decide) e.symm)
        ·rw [List.flatMap_append, List.flatMap_singleton]
         exact HE.out.1
        ·rw [List.length_append, HN.out.ln]; rfl
        ·intro i hi
         by_cases h : i = k
         ·rw [h, HGE.out]
          have e9 : (tl ++ [y]).getD k ⟨0, 0, 0⟩ = y := by simp [List.getD, <- HN.out.ln]
          rw [e9]
          exact HYF.out
         ·have h1 := HN.out.fit i (by omega)
          have e9 : (tl ++ [y]).getD i ⟨0, 0, 0⟩ = tl.getD i ⟨0, 0, 0⟩ := by simp [List.getD, List.getElem?_append_left (show i < tl.length by rw [HN.out.ln]; omega)]
          rw [e9]
          exact h1
        ·simp [intOf]
         omega
  ·obtain rfl : k = l.length := by omega
   have HE := Lib.hid (show Row rlL 3 wr wr.heap.size A tl by
    have e := HJ.out.own
    rw [<- HJ.out.ln] at e
    exact row_of_own (enc := rlL) (size := 3) (by omega) (fun _ => rfl) e)
   have HFT : Hid (fitsA bs tl = true) := Lib.hid (fitsA_iff.2 ⟨by rw [HJ.out.ln, HBS.out.2], fun i hi => HJ.out.fit i (by have := HBS.out.2; omega)⟩)
   have HLN := Lib.hid HJ.out.ln
   clear hx hu2
   go_wp2_with fail
   go_ret
   exact ⟨tl, A, c, by rw [HLN.out]; rfl, HE.out, HFT.out, hn⟩
end

end Go.Proofs.YtcdhhfgpdokkoaaGreat
