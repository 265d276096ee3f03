/- What the second loop of the cheapest surface holds. -/
import Derived.Test.YtkenokpobbichaaL7
namespace Go.Proofs.Ytkenokpobbichaa
open Go.RowKit Go.Shelf Go.Deep

/-- The search's places, for a search that begins in a world of size b. -/
abbrev rpOf (s : Sm) (f : Int) (t : Option Bool) (z b : Nat) : RP := ⟨s, f, t, z, b, b + 1, b + 1 + 1 + 1, b + 1 + 1 + 1 + 1, b + 1 + 1 + 1 + 1 + 1, b + 1 + 1 + 1 + 1 + 1 + 1, b⟩
/-- What the search does not turn. -/
structure ChS (b k c j : Nat) (Ds acc : List Nat) (cur pb q cc : Nat) (w W : World) : Prop where
  hr : Whole W (b + 1 + 1) 39 #[vi k, .slice (some ⟨q, 0, none⟩) (j + 1) cc]
  row : W.ownsRow (b + 7) 3 1 (.slice (some ⟨q, 0, none⟩) (j + 1) cc) (j + 1) ((acc ++ [cur]).map fun x : Nat => vi x)
  st : Whole W pb 162 #[vi c, vi cur]
  nw : newer w W
  ms : MarksOk Ds W
  pbb : b + 7 ≤ pb
  ge : ∀ D ∈ Ds, b + 7 ≤ D
  wb : w.heap.size = b
structure ChL (b : Nat) (Ds : List Nat) (pb q N : Nat) : Prop where
  p : pb < N
  q : q < N
  d : ∀ D ∈ Ds, D < N
  n : b + 7 ≤ N
section
variable {b k c j : Nat} {Ds acc : List Nat} {cur pb q cc : Nat} {w W W' : World}
theorem ChS.qge (h : ChS b k c j Ds acc cur pb q cc w W) : b + 7 ≤ q := own_ge h.row q rfl
theorem ChS.lts (h : ChS b k c j Ds acc cur pb q cc w W) : ChL b Ds pb q W.heap.size :=
  ⟨h.st.lt, own_lt h.row q rfl, h.ms.lt, by have := h.st.lt; have := h.pbb; omega⟩
theorem ChS.next (h : ChS b k c j Ds acc cur pb q cc w W) (hb : newer W W') : ChS b k c j Ds acc cur pb q cc w W' :=
  ⟨h.hr.below hb h.hr.lt, own_below h.row hb, h.st.below hb h.st.lt, newer_trans h.nw hb, h.ms.next hb, h.pbb, h.ge, h.wb⟩
theorem ChS.far (h : ChS b k c j Ds acc cur pb q cc w W) {d : Nat} (hg : W.grownBy W' (some d)) (h1 : d ≠ b + 1 + 1) (h2 : d ≠ q) (h3 : d ≠ pb) (h4 : d ∉ Ds) (h5 : b ≤ d) : ChS b k c j Ds acc cur pb q cc w W' := by
  have ne : ∀ {x : Nat}, d ≠ x → some x ≠ some d := fun h e => h (by injection e with e; exact e.symm)
  refine ⟨h.hr.grown hg (ne h1), h.row.kept hg (.inr (show some q ≠ some d from ne h2)), h.st.grown hg (ne h3), Below.trans h.nw (below_of_grown hg (by rw [h.wb]; exact h5) ?_), h.ms.grown hg h4, h.pbb, h.ge, h.wb⟩
  exact h.nw.size
theorem ChS.memo (h : ChS b k c j Ds acc cur pb q cc w W) (hg : W.grownBy W' (some (b + 1 + 1 + 1))) : ChS b k c j Ds acc cur pb q cc w W' := by
  have h1 := h.qge
  have h2 := h.pbb
  exact h.far hg (by omega) (by omega) (by omega) (fun hm => by have := h.ge _ hm; omega) (by omega)
theorem ChS.fresh (h : ChS b k c j Ds acc cur pb q cc w W) {N d : Nat} (hl : ChL b Ds pb q N) (hd : N ≤ d) (hg : W.grownBy W' (some d)) : ChS b k c j Ds acc cur pb q cc w W' := by
  have h1 := hl.p
  have h2 := hl.q
  have h3 := hl.n
  exact h.far hg (by omega) (by omega) (by omega) (fun hm => by have := hl.d _ hm; omega) (by omega)
end
theorem RsM.high {s : Sm} {f : Int} {t : Option Bool} {z b : Nat} {lp : List ((Int × Int) × Int)} {W W' : World} (h : RsM (rpOf s f t z b) lp W) {d : Nat} (hg : W.grownBy W' (some d)) (hd : b + 7 ≤ d) : RsM (rpOf s f t z b) lp W' :=
  h.far hg (by simp only []; omega) (by simp only []; omega) (by simp only []; omega) (by simp only []; omega) (by simp only []; omega) (by simp only []; omega) (by simp only []; omega)
/-- What the rounds over the beds beside a bed hold. -/
structure BsJ (s : Sm) (f : Int) (t : Option Bool) (z b k c c1 j : Nat) (Ds acc : List Nat) (cur pb q cc sb lb bb D N best : Nat) (r : Loop) (w W : World) : Prop where
  me : ∃ lp, RsM (rpOf s f t z b) lp W ∧ Good (rpOf s f t z b) lp
  ch : ChS b k c j Ds acc cur pb q cc w W
  sp : Whole W sb 162 #[vi c1, vi best]
  bx : Whole W bb 3 #[vi cur]
  lx : Whole W lb 115 (lkC s f t)
  df : W.heap[D]? = some (.deferred (some []))
  lo : W.heap[D + 1]? = some (.loop r)
  lm : ChL b Ds pb q N
  so : N ≤ sb ∧ sb < lb ∧ lb < bb ∧ bb < D
section
variable {s : Sm} {f : Int} {t : Option Bool} {z b k c c1 j : Nat} {Ds acc : List Nat} {cur pb q cc sb lb bb D N best : Nat} {r : Loop} {w W W' : World}
theorem BsJ.next (h : BsJ s f t z b k c c1 j Ds acc cur pb q cc sb lb bb D N best r w W) (hb : newer W W') : BsJ s f t z b k c c1 j Ds acc cur pb q cc sb lb bb D N best r w W' := by
  obtain ⟨lp, h1, h2⟩ := h.me
  exact ⟨⟨lp, h1.next hb, h2⟩, h.ch.next hb, h.sp.below hb h.sp.lt, h.bx.below hb h.bx.lt, h.lx.below hb h.lx.lt, (hb.block _ (Array.getElem?_eq_some_iff.1 h.df).1).trans h.df, (hb.block _ (Array.getElem?_eq_some_iff.1 h.lo).1).trans h.lo, h.lm, h.so⟩
/-- Behind a call of the search. -/
theorem BsJ.back (h : BsJ s f t z b k c c1 j Ds acc cur pb q cc sb lb bb D N best r w W) (hg : W.grownBy W' (some (b + 1 + 1 + 1))) (hm : ∃ lp, RsM (rpOf s f t z b) lp W' ∧ Good (rpOf s f t z b) lp) : BsJ s f t z b k c c1 j Ds acc cur pb q cc sb lb bb D N best r w W' := by
  have h1 := h.so
  have h2 := h.lm.n
  have ne : ∀ {x : Nat}, b + 7 ≤ x → some x ≠ some (b + 1 + 1 + 1) := fun h e => by injection e; omega
  exact ⟨hm, h.ch.memo hg, h.sp.grown hg (ne (by omega)), h.bx.grown hg (ne (by omega)), h.lx.grown hg (ne (by omega)), (hg.block _ (Array.getElem?_eq_some_iff.1 h.df).1 (ne (by omega))).trans h.df, (hg.block _ (Array.getElem?_eq_some_iff.1 h.lo).1 (ne (by omega))).trans h.lo, h.lm, h.so⟩
theorem BsJ.put (h : BsJ s f t z b k c c1 j Ds acc cur pb q cc sb lb bb D N best r w W) (r' : Loop) : BsJ s f t z b k c c1 j Ds acc cur pb q cc sb lb bb D N best r' w (W.putObj (D + 1) (.loop r')) := by
  obtain ⟨lp, h1, h2⟩ := h.me
  have h3 := h.so
  have h4 := h.lm.n
  have hD := (Array.getElem?_eq_some_iff.1 h.lo).1
  exact ⟨⟨lp, h1.high (grown_putL _ _ _) (by omega), h2⟩, h.ch.fresh h.lm (by omega) (grown_putL _ _ _), h.sp.put (by omega) _, h.bx.put (by omega) _, h.lx.put (by omega) _, (World.putObj_heap_other (by omega)).trans h.df, World.putObj_heap_same hD, h.lm, h.so⟩
/-- The best bed has turned. -/
theorem BsJ.set (h : BsJ s f t z b k c c1 j Ds acc cur pb q cc sb lb bb D N best r w W) (v : Nat) : BsJ s f t z b k c c1 j Ds acc cur pb q cc sb lb bb D N v r w (W.setCell ⟨sb, 1, none⟩ (vi v)) := by
  obtain ⟨lp, h1, h2⟩ := h.me
  have h3 := h.so
  have h4 := h.lm.n
  have hg : W.grownBy (W.setCell ⟨sb, 1, none⟩ (vi v)) (some sb) := grown_set (p := ⟨sb, 1, none⟩) (grown_refl W (some sb)) (.inl rfl) _
  have ne : ∀ {x : Nat}, x ≠ sb → some x ≠ some sb := fun h e => h (by injection e)
  exact ⟨⟨lp, h1.high hg (by omega), h2⟩, h.ch.fresh h.lm (by omega) hg, h.sp.set 1 (vi v), h.bx.grown hg (ne (by omega)), h.lx.grown hg (ne (by omega)), (hg.block _ (Array.getElem?_eq_some_iff.1 h.df).1 (ne (by omega))).trans h.df, (hg.block _ (Array.getElem?_eq_some_iff.1 h.lo).1 (ne (by omega))).trans h.lo, h.lm, h.so⟩
end
/-- The best of so many beds. -/
def bestK (c : Nat → Nat → Int) (n m k b i : Nat) : Nat := ((nearL n b).take i).foldl (fun best x => if restN c n bigN m (k + 1) x < restN c n bigN m (k + 1) best then x else best) b
theorem bestK_zero (c : Nat → Nat → Int) (n m k b : Nat) : bestK c n m k b 0 = b := rfl
theorem bestK_succ {c : Nat → Nat → Int} {n m k b i : Nat} (hi : i < cntN n b) : bestK c n m k b (i + 1) = if restN c n bigN m (k + 1) (loN b + i) < restN c n bigN m (k + 1) (bestK c n m k b i) then loN b + i else bestK c n m k b i := by
  unfold bestK
  rw [near_is, List.take_add_one, List.getElem?_range' hi, List.foldl_append, Option.toList_some, List.foldl_cons, List.foldl_nil, Nat.one_mul]
theorem bestK_lt {c : Nat → Nat → Int} {n m k b i : Nat} (hb : b < n) : bestK c n m k b i < n := by
  unfold bestK
  rcases (fold_best (f := restN c n bigN m (k + 1)) ((nearL n b).take i) b).1 with h | h
  · rw [h]; exact hb
  · exact ((mem_near hb).1 (List.mem_of_mem_take h)).1
theorem bestK_all (c : Nat → Nat → Int) (n m k b : Nat) : bestK c n m k b (cntN n b) = stepB c n bigN m k b := by
  unfold bestK stepB
  rw [near_all]
/-- A row of one number, made behind H. -/
def vCell (H : Nat) (y : Int) (v : Value) (W : World) : Prop := ∃ g, v = .slice (some ⟨g, 0, none⟩) 1 1 ∧ H ≤ g ∧ Whole W g 3 #[vi y]
/-- A list of numbers, in a row of its own. -/
def vOwnJ (b n : Nat) (l : List Nat) (v : Value) (W : World) : Prop := ∃ g c', v = .slice (some ⟨g, 0, none⟩) n c' ∧ W.ownsRow (b + 7) 3 1 (.slice (some ⟨g, 0, none⟩) n c') n (l.map fun x : Nat => vi x)
theorem vCell_far {H d : Nat} {y : Int} (hd : d < H) {v : Value} {W W' : World} (h : vCell H y v W) (hg : W.grownBy W' (some d)) : vCell H y v W' := by
  obtain ⟨g, h1, h2, h3⟩ := h
  exact ⟨g, h1, h2, h3.grown hg (fun e => by injection e; omega)⟩
theorem vOwnJ_far {b n d : Nat} {l : List Nat} (hd : d < b + 7) {v : Value} {W W' : World} (h : vOwnJ b n l v W) (hg : W.grownBy W' (some d)) : vOwnJ b n l v W' := by
  obtain ⟨g, c', h1, h2⟩ := h
  refine ⟨g, c', h1, h2.kept hg (.inr (fun e => ?_))⟩
  have e2 := own_ge h2 d e
  omega
/-- What the append of a bed holds, stage by stage. -/
structure ApJ (s : Sm) (f : Int) (t : Option Bool) (z b k c ce j : Nat) (Ds acc : List Nat) (cur pb q cc sb nx H : Nat) (lp : List ((Int × Int) × Int)) (w : World) (sg : Nat) (W : World) : Prop where
  me : RsM (rpOf s f t z b) lp W
  st : Whole W pb 162 #[vi c, vi cur]
  sp : Whole W sb 162 #[vi ce, vi nx]
  nw : newer w W
  ms : MarksOk Ds W
  sz : H ≤ W.heap.size
  hr : sg ≤ 1 → Whole W (b + 1 + 1) 39 #[vi k, .slice (some ⟨q, 0, none⟩) (j + 1) cc]
  ow : sg = 0 → W.ownsRow (b + 7) 3 1 (.slice (some ⟨q, 0, none⟩) (j + 1) cc) (j + 1) ((acc ++ [cur]).map fun x : Nat => vi x)
  fin : sg = 2 → ∃ g c', Whole W (b + 1 + 1) 39 #[vi k, .slice (some ⟨g, 0, none⟩) (j + 1 + 1) c'] ∧ W.ownsRow (b + 7) 3 1 (.slice (some ⟨g, 0, none⟩) (j + 1 + 1) c') (j + 1 + 1) ((acc ++ [cur] ++ [nx]).map fun x : Nat => vi x)
  lo : b + 7 ≤ pb ∧ b + 7 ≤ q ∧ b + 7 ≤ sb ∧ (∀ D ∈ Ds, b + 7 ≤ D) ∧ q ≠ pb ∧ q ≠ sb ∧ pb ≠ sb ∧ q ∉ Ds ∧ pb ∉ Ds ∧ w.heap.size = b ∧ q < H ∧ b + 7 ≤ H
section
variable {s : Sm} {f : Int} {t : Option Bool} {z b k c ce j : Nat} {Ds acc : List Nat} {cur pb q cc sb nx H sg : Nat} {lp : List ((Int × Int) × Int)} {w W W' : World}
theorem ApJ.next (h : ApJ s f t z b k c ce j Ds acc cur pb q cc sb nx H lp w sg W) (hb : newer W W') : ApJ s f t z b k c ce j Ds acc cur pb q cc sb nx H lp w sg W' :=
  ⟨h.me.next hb, h.st.below hb h.st.lt, h.sp.below hb h.sp.lt, newer_trans h.nw hb, h.ms.next hb, Nat.le_trans h.sz hb.size, fun e => (h.hr e).below hb (h.hr e).lt, fun e => own_below (h.ow e) hb, fun e => by
    obtain ⟨g, c', h1, h2⟩ := h.fin e
    exact ⟨g, c', h1.below hb h1.lt, own_below h2 hb⟩, h.lo⟩
/-- Behind the append. -/
theorem ApJ.app (h : ApJ s f t z b k c ce j Ds acc cur pb q cc sb nx H lp w 0 W) (hg : W.grownBy W' (some q)) : ApJ s f t z b k c ce j Ds acc cur pb q cc sb nx H lp w 1 W' := by
  obtain ⟨h1, h2, h3, h4, h5, h6, h7, h8, h9, h10, h11, h12⟩ := h.lo
  have ne : ∀ {x : Nat}, q ≠ x → some x ≠ some q := fun h e => h (by injection e with e; exact e.symm)
  exact ⟨h.me.high hg h2, h.st.grown hg (ne h5), h.sp.grown hg (ne h6), Below.trans h.nw (below_of_grown hg (by omega) h.nw.size), h.ms.grown hg h8, Nat.le_trans h.sz hg.size, fun _ => (h.hr (by omega)).grown hg (ne (by omega)), fun e => by omega, fun e => by omega, h.lo⟩
/-- Behind the store. -/
theorem ApJ.put (h : ApJ s f t z b k c ce j Ds acc cur pb q cc sb nx H lp w 1 W) {g c' : Nat} (ho : W.ownsRow (b + 7) 3 1 (.slice (some ⟨g, 0, none⟩) (j + 1 + 1) c') (j + 1 + 1) ((acc ++ [cur] ++ [nx]).map fun x : Nat => vi x)) : ApJ s f t z b k c ce j Ds acc cur pb q cc sb nx H lp w 2 (W.setCell ⟨b + 1 + 1, 1, none⟩ (.slice (some ⟨g, 0, none⟩) (j + 1 + 1) c')) := by
  obtain ⟨h1, h2, h3, h4, h5, h6, h7, h8, h9, h10, h11, h12⟩ := h.lo
  have hr := h.hr (by omega)
  have hg : W.grownBy (W.setCell ⟨b + 1 + 1, 1, none⟩ (.slice (some ⟨g, 0, none⟩) (j + 1 + 1) c')) (some (b + 1 + 1)) := grown_set (p := ⟨b + 1 + 1, 1, none⟩) (grown_refl W _) (.inl rfl) _
  have ne : ∀ {x : Nat}, b + 1 + 1 ≠ x → some x ≠ some (b + 1 + 1) := fun h e => h (by injection e with e; exact e.symm)
  refine ⟨h.me.far hg (by simp only []; omega) (by simp only []; omega) (by simp only []; omega) (by simp only []; omega) (by simp only []; omega) (by simp only []; omega) (by simp only []; omega), h.st.grown hg (ne (by omega)), h.sp.grown hg (ne (by omega)), Below.trans h.nw (below_of_grown hg (by omega) h.nw.size), h.ms.grown hg (fun hm => by have := h4 _ hm; omega), Nat.le_trans h.sz hg.size, fun e => by omega, fun e => by omega, fun _ => ⟨g, c', hr.set 1 _, own_set ho (own_ne ho hr (by decide)) _⟩, h.lo⟩
/-- Behind the region's last store. -/
theorem ApJ.done (h : ApJ s f t z b k c ce j Ds acc cur pb q cc sb nx H lp w 2 W) : ∃ g c', RsM (rpOf s f t z b) lp ((W.setCell ⟨pb, 0, none⟩ (vi ce)).setCell ⟨pb, 1, none⟩ (vi nx)) ∧ Whole ((W.setCell ⟨pb, 0, none⟩ (vi ce)).setCell ⟨pb, 1, none⟩ (vi nx)) (b + 1 + 1) 39 #[vi k, .slice (some ⟨g, 0, none⟩) (j + 1 + 1) c'] ∧ ((W.setCell ⟨pb, 0, none⟩ (vi ce)).setCell ⟨pb, 1, none⟩ (vi nx)).ownsRow (b + 7) 3 1 (.slice (some ⟨g, 0, none⟩) (j + 1 + 1) c') (j + 1 + 1) ((acc ++ [cur] ++ [nx]).map fun x : Nat => vi x) ∧ Whole ((W.setCell ⟨pb, 0, none⟩ (vi ce)).setCell ⟨pb, 1, none⟩ (vi nx)) pb 162 #[vi ce, vi nx] ∧ newer w ((W.setCell ⟨pb, 0, none⟩ (vi ce)).setCell ⟨pb, 1, none⟩ (vi nx)) ∧ MarksOk Ds ((W.setCell ⟨pb, 0, none⟩ (vi ce)).setCell ⟨pb, 1, none⟩ (vi nx)) ∧ b + 7 ≤ ((W.setCell ⟨pb, 0, none⟩ (vi ce)).setCell ⟨pb, 1, none⟩ (vi nx)).heap.size ∧ (∀ D ∈ Ds, b + 7 ≤ D) ∧ w.heap.size = b := by
  obtain ⟨h1, h2, h3, h4, h5, h6, h7, h8, h9, h10, h11, h12⟩ := h.lo
  obtain ⟨g, c', e1, e2⟩ := h.fin rfl
  have hg : W.grownBy ((W.setCell ⟨pb, 0, none⟩ (vi ce)).setCell ⟨pb, 1, none⟩ (vi nx)) (some pb) := grown_set (p := ⟨pb, 1, none⟩) (grown_set (p := ⟨pb, 0, none⟩) (grown_refl W _) (.inl rfl) _) (.inl rfl) _
  exact ⟨g, c', h.me.high hg h1, e1.grown hg (fun e => by injection e; omega), own_set (own_set e2 (own_ne e2 h.st (by decide)) _) (own_ne e2 h.st (by decide)) _, (h.st.set 0 (vi ce)).set 1 (vi nx), Below.trans h.nw (below_of_grown hg (by omega) h.nw.size), h.ms.grown hg h9, Nat.le_trans (Nat.le_trans h12 h.sz) hg.size, h4, h10⟩
end
theorem own_same {W W' : World} {base : Nat} {e : TypeId} {size n : Nat} {v : Value} {xs : List Value} (h : W.ownsRow base e size v n xs) (hs : ∀ k, v.ownBlock = some k → W'.heap[k]? = W.heap[k]?) : W'.ownsRow base e size v n xs := by
  rcases h.2 with h0 | ⟨g, cap, cur, hv, hb, hg, hr⟩
  · exact ⟨h.1, .inl h0⟩
  · exact ⟨h.1, .inr ⟨g, cap, cur, hv, hb, (hs g (by rw [hv]; rfl)).trans hg, hr⟩⟩

end Go.Proofs.Ytkenokpobbichaa
