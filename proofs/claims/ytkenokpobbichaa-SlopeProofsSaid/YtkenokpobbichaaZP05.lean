/- What the last text of this chain needs: AI, CA, CB. -/
import Derived.Test.YtkenokpobbichaaZP04
namespace Go.Proofs.Ytkenokpobbichaa
section
open Go.ChangeShapes Go.WideShapes Go.ChangeAt Go.RowKit Go.Deep
theorem Try.own : ownKnob Try.prog.godebug = none := by kernel_rfl
theorem Try.laidOut : laidOutB Try.prog = true := by kernel_rfl
theorem Try.cells3 : Try.prog.cellsOf 3 = 1 := by kernel_rfl
theorem Try.cells22 : Try.prog.cellsOf 22 = 1 := by kernel_rfl
theorem Try.cells24 : Try.prog.cellsOf 24 = 2 := by kernel_rfl
theorem Try.cells25 : Try.prog.cellsOf 25 = 1 := by kernel_rfl
theorem Try.cells42 : Try.prog.cellsOf 42 = 2 := by kernel_rfl
theorem Try.cells66 : Try.prog.cellsOf 66 = 1 := by kernel_rfl
theorem Try.cells69 : Try.prog.cellsOf 69 = 8 := by kernel_rfl
theorem len8 {α : Type} {l : List α} (h : l.length = 8) : ∃ a b c d e f g i, l = [a, b, c, d, e, f, g, i] := by
 match l, h with
 | [a, b, c, d, e, f, g, i], _ => exact ⟨a, b, c, d, e, f, g, i, rfl⟩
theorem len5 {α : Type} {l : List α} (h : l.length = 5) : ∃ a b c d e, l = [a, b, c, d, e] := by
 match l, h with
 | [a, b, c, d, e], _ => exact ⟨a, b, c, d, e, rfl⟩
section
variable {H : Type} {enc : TypeId × Value -> H} {w : World} {base : Nat} {spare : Nat -> Bool} {held : Bool} {fuel : Nat} {cs : List Value} {x : DataW H × List MemPlace}
theorem open_rowP {α : Type} {ec : α -> List Value} {Pr : α -> Prop} {t e s : Nat} (ht : Try.prog.underlying t = some (.slice e)) (hC : Try.prog.cellsOf e = s) (he : ∀ y, (ec y).length = s) (hs : 0 < s)
  (hel : ∀ {fuel : Nat} {cs : List Value} {x : DataW H × List MemPlace}, DataW.trod enc Try.prog w base spare held fuel e cs = some x -> ∃ y, cs = ec y /\ Pr y)
  (h : DataW.trod enc Try.prog w base spare held fuel t cs = some x) : ∃ (A : Option Addr) (l : List α) (cp : Nat), cs = [.slice A l.length cp] /\ l.length <= maxLen /\ Row ec s w w.heap.size A l /\ ∀ y ∈ l, Pr y := by
 rcases open_slice ht h with ⟨rfl, _⟩ | ⟨a, len, cap, m, n, D, Pl, rfl, hb, hl, hm, hmm, _, hi⟩
 ·exact ⟨none, [], 0, rfl, Nat.zero_le _, Row.nil _, fun y hy => by simp at hy⟩
 ·have hlm : len <= m := by rw [hmm]; split <;> omega
  obtain ⟨b, off, sp⟩ := a
  rcases Nat.eq_zero_or_pos len with rfl | hpos
  ·exact ⟨_, [], cap, rfl, Nat.zero_le _, Row.nil _, fun y hy => by simp at hy⟩
  ·have hex : ∀ i, ∃ y : α, Pr y /\ (i < len -> w.cells? base ((⟨b, off, sp⟩ : Addr).add (i * s)) s = some (ec y)) := by
    intro i
    by_cases hi2 : i < len
    ·obtain ⟨cs', hc, ht'⟩ := hi i (by omega)
     obtain ⟨y, rfl, hpy⟩ := hel ht'
     rw [hC] at hc
     exact ⟨y, hpy, fun _ => hc⟩
    ·obtain ⟨cs', hc, ht'⟩ := hi 0 (by omega)
     obtain ⟨y, rfl, hpy⟩ := hel ht'
     exact ⟨y, hpy, fun h => absurd h hi2⟩
   obtain ⟨f, hff⟩ := Classical.axiomOfChoice hex
   have hf := fun i => (hff i).2
   have hcell : ∀ i, i < len -> ∀ j v, (ec (f i))[j]? = some v -> w.cell? (((⟨b, off, sp⟩ : Addr).add (i * s)).add j) = some v := by
    intro i hi2 j v hv
    obtain ⟨_, _, h3⟩ := World.cells?_some (hf i hi2)
    have hj : j < s := by rw [<- he (f i)]; exact (List.getElem?_eq_some_iff.1 hv).1
    rw [h3 j hj, hv]
   have hsp : sp = none := by
    obtain ⟨u, hv⟩ := get_of_lt (l := ec (f 0)) (k := 0) (by rw [he]; exact hs)
    have := hcell 0 hpos 0 _ hv
    simp only [Nat.zero_mul, Addr.add, if_true] at this
    unfold World.cell? at this
    cases sp with
    | none => rfl
    | some q =>
     exfalso
     dsimp only at this
     split at this
     ·simp at this
     ·cases this
   subst hsp
   refine ⟨_, (List.range len).map f, cap, by rw [List.length_map, List.length_range], by rw [List.length_map, List.length_range]; exact Nat.le_trans hl hm, fun _ => ⟨b, off, rfl, ?_, fun k x hk j v hv => ?_⟩, fun y hy => ?_⟩
   ·obtain ⟨u, hv⟩ := get_of_lt (l := ec (f 0)) (k := 0) (by rw [he]; exact hs)
    have := World.block_lt_of_cell? w _ (hcell 0 hpos 0 _ hv)
    simpa [Addr.add] using this
   ·rw [List.getElem?_map] at hk
    obtain ⟨i, hi3, rfl⟩ := Option.map_eq_some_iff.1 hk
    obtain ⟨hkl, hki⟩ := List.getElem?_eq_some_iff.1 hi3
    rw [List.getElem_range] at hki
    subst hki
    have := hcell k (by simpa using hkl) j v hv
    rw [Go.Deep.add_add, add_row] at this
    rw [Nat.add_assoc]
    exact this
   ·obtain ⟨i, _, rfl⟩ := List.mem_map.1 hy
    exact (hff i).1
theorem int_cells (h : DataW.trod enc Try.prog w base spare held fuel 3 cs = some x) : ∃ y : Int, cs = intL y /\ True := by
 obtain ⟨a, ha, _⟩ := DataW.trod_int Try.underlying3 h
 exact ⟨a, ha, trivial⟩
theorem rg_cells (h : DataW.trod enc Try.prog w base spare held fuel 42 cs = some x) : ∃ y : Rg, cs = rgL y /\ True := by
 obtain ⟨xs, m, _, _, hlen, hxl, hg⟩ := DataW.trod_struct Try.underlying42 h
 rw [Try.cells42] at hlen
 obtain ⟨c0, c1, rfl⟩ := len2 hlen
 obtain ⟨y0, y1, rfl⟩ := len2 (show xs.length = 2 from hxl)
 have h0 := hg 0 _ rfl
 have h1 := hg 1 _ rfl
 simp [Try.cells3] at h0 h1
 obtain ⟨a, ha, _⟩ := DataW.trod_int Try.underlying3 h0
 obtain ⟨b, hb, _⟩ := DataW.trod_int Try.underlying3 h1
 injection ha with ha
 injection hb with hb
 exact ⟨⟨a, b⟩, by rw [ha, hb], trivial⟩
theorem bd_cells (h : DataW.trod enc Try.prog w base spare held fuel 69 cs = some x) : ∃ y : Bd, cs = bdL y /\ True := by
 obtain ⟨xs, m, _, _, hlen, hxl, hg⟩ := DataW.trod_struct Try.underlying69 h
 rw [Try.cells69] at hlen
 obtain ⟨c0, c1, c2, c3, c4, c5, c6, c7, rfl⟩ := len8 hlen
 obtain ⟨y0, y1, y2, y3, y4, rfl⟩ := len5 (show xs.length = 5 from hxl)
 have h0 := hg 0 _ rfl
 have h1 := hg 1 _ rfl
 have h2 := hg 2 _ rfl
 have h3 := hg 3 _ rfl
 have h4 := hg 4 _ rfl
 simp [Try.cells3, Try.cells42] at h0 h1 h2 h3 h4
 obtain ⟨a, ha, _⟩ := DataW.trod_int Try.underlying3 h0
 obtain ⟨b, hb, _⟩ := DataW.trod_int Try.underlying3 h1
 obtain ⟨r2, hr2, _⟩ := rg_cells h2
 obtain ⟨r3, hr3, _⟩ := rg_cells h3
 obtain ⟨r4, hr4, _⟩ := rg_cells h4
 injection ha with ha
 injection hb with hb
 simp only [rgL, List.cons.injEq, and_true] at hr2 hr3 hr4
 exact ⟨⟨a, b, r2, r3, r4⟩, by rw [ha, hb, hr2.1, hr2.2, hr3.1, hr3.2, hr4.1, hr4.2], trivial⟩
theorem col_cells (h : DataW.trod enc Try.prog w base spare held fuel 66 cs = some x) : ∃ y : Cl, cs = clL y /\ (y.beds.length <= maxLen /\ Row bdL 8 w w.heap.size y.a y.beds) := by
 obtain ⟨A, l, cp, e, hl, hr, _⟩ := open_rowP (ec := bdL) Try.underlying66 Try.cells69 (fun _ => rfl) (by omega) bd_cells h
 exact ⟨⟨l, A, cp⟩, e, hl, hr⟩
theorem slope_open (h : DataW.trod enc Try.prog w base spare held fuel 24 cs = some x) : ∃ s : Sm, cs = (smC s).toList /\ SmOk s w := by
 obtain ⟨xs, m, _, _, hlen, hxl, hg⟩ := DataW.trod_struct Try.underlying24 h
 rw [Try.cells24] at hlen
 obtain ⟨c0, c1, rfl⟩ := len2 hlen
 obtain ⟨y0, y1, rfl⟩ := len2 (show xs.length = 2 from hxl)
 have h0 := hg 0 _ rfl
 have h1 := hg 1 _ rfl
 simp [Try.cells3, Try.cells22] at h0 h1
 obtain ⟨A, l, cp, e0, _, hr, hc⟩ := open_rowP (ec := clL) Try.underlying22 Try.cells66 (fun _ => rfl) (by omega) col_cells h0
 obtain ⟨a, e1, _⟩ := DataW.trod_int Try.underlying3 h1
 injection e0 with e0
 injection e1 with e1
 exact ⟨⟨l, A, cp, a⟩, by rw [e0, e1], ⟨hr, fun y hy => (hc y hy).2⟩⟩
theorem ints_open (h : DataW.trod enc Try.prog w base spare held fuel 25 cs = some x) : ∃ (D : Option Addr) (l : List Int) (dp : Nat), cs = [.slice D l.length dp] /\ l.length <= maxLen /\ Row intL 1 w w.heap.size D l := by
 obtain ⟨A, l, cp, e, hl, hr, _⟩ := open_rowP (ec := intL) Try.underlying25 Try.cells3 (fun _ => rfl) (by omega) int_cells h
 exact ⟨A, l, cp, e, hl, hr⟩
@[go_sem] theorem run_field42 (a b : Value) (w : World) : Sem.run Try.prog (Instr.field 42 (.agg #[a, b]) 0) w = .ok a w := by
 simp [Instr.field, asAgg, part, go_sem]
end
end

section
open Go.RowKit Go.Shelf Go.Deep
structure BhJ (s : Sm) (f : Int) (t : Option Bool) (A : Option Addr) (c : Nat) (l : List Int) (b nb bb lb D : Nat) (n : Int) (r : Loop) (w W : World) : Prop where
 nw : newer w W
 sl : Whole W (w.heap.size + 1) 25 #[.slice A l.length c]
 nx : Whole W nb 3 #[vi n]
 bx : Whole W bb 3 #[vi b]
 lx : Whole W lb 115 (lkC s f t)
 df : W.heap[D]? = some (.deferred (some []))
 lo : W.heap[D + 1]? = some (.loop r)
 so : w.heap.size + 1 < nb /\ nb < lb /\ lb < bb /\ bb < D
section
variable {s : Sm} {f : Int} {t : Option Bool} {A : Option Addr} {c : Nat} {l : List Int} {b nb bb lb D : Nat} {n : Int} {r : Loop} {w W W' : World}
theorem BhJ.next (h : BhJ s f t A c l b nb bb lb D n r w W) (hb : newer W W') : BhJ s f t A c l b nb bb lb D n r w W' :=
 ⟨newer_trans h.nw hb, h.sl.below hb h.sl.lt, h.nx.below hb h.nx.lt, h.bx.below hb h.bx.lt, h.lx.below hb h.lx.lt, (hb.block _ (Array.getElem?_eq_some_iff.1 h.df).1).trans h.df, (hb.block _ (Array.getElem?_eq_some_iff.1 h.lo).1).trans h.lo, h.so⟩
theorem newer_put {w W : World} (h : newer w W) {D : Nat} (hD : w.heap.size <= D) (o : Obj) : newer w (W.putObj D o) := below_grown (grown_put (grown_of_newer h none) hD o) (fun q e => by cases e) (Nat.le_refl _)
theorem BhJ.put (h : BhJ s f t A c l b nb bb lb D n r w W) (r' : Loop) : BhJ s f t A c l b nb bb lb D n r' w (W.putObj (D + 1) (.loop r')) := by
 have h3 := h.so
 have hD := (Array.getElem?_eq_some_iff.1 h.lo).1
 exact ⟨newer_put h.nw (by omega) _, h.sl.put (by omega) _, h.nx.put (by omega) _, h.bx.put (by omega) _, h.lx.put (by omega) _, (World.putObj_heap_other (by omega)).trans h.df, World.putObj_heap_same hD, h.so⟩
theorem BhJ.set (h : BhJ s f t A c l b nb bb lb D n r w W) (v : Int) : BhJ s f t A c l b nb bb lb D v r w (W.setCell ⟨nb, 0, none⟩ (vi v)) := by
 have h3 := h.so
 have hg : W.grownBy (W.setCell ⟨nb, 0, none⟩ (vi v)) (some nb) := grown_set (p := ⟨nb, 0, none⟩) (grown_refl W (some nb)) (.inl rfl) _
 have ne : ∀ {k : Nat}, k ≠ nb -> some k ≠ some nb := fun h e => h (by injection e)
 exact ⟨h.nw.setCell (p := ⟨nb, 0, none⟩) (by show w.heap.size <= nb; omega) _, h.sl.grown hg (ne (by omega)), h.nx.set 0 (vi v), h.bx.grown hg (ne (by omega)), h.lx.grown hg (ne (by omega)), (hg.block _ (Array.getElem?_eq_some_iff.1 h.df).1 (ne (by omega))).trans h.df, (hg.block _ (Array.getElem?_eq_some_iff.1 h.lo).1 (ne (by omega))).trans h.lo, h.so⟩
end
def vTwoN (B : Nat) (x y : Int) (v : Value) (W : World) : Prop := ∃ q, v = .slice (some ⟨q, 0, none⟩) 2 2 /\ B <= q /\ Whole W q 3 #[vi x, vi y]
theorem vTwoN_st {B : Nat} {x y : Int} : ∀ v W W', vTwoN B x y v W -> newer W W' -> vTwoN B x y v W' := fun _ _ _ ⟨q, h1, h2, h4⟩ hb => ⟨q, h1, h2, h4.below hb h4.lt⟩
attribute [local go_sem] Oper.semAt_some
set_option maxRecDepth 100000 in
set_option maxHeartbeats 1000000 in
theorem behind_any (s : Sm) (f : Int) (t : Option Bool) (l : List Int) (A : Option Addr) (c b : Nat) (w : World) (hok : SmOk s w) (hs : SdOk s.sd) (hb : b < s.sd.n) (hl : l.length = s.sd.n) (hr : Row intL 1 w w.heap.size A l) :
  Calls Try.prog 82 #[lkV s f t, .slice A l.length c, vi b] w fun e w' => e = .returned (vi (behindN bigN s.sd.n (iAt l) b)) /\ newer w w' := by
 have HOK := Lib.hid (And.intro hok hr)
 have hcl := hs.cols
 rw [sd_len] at hcl
 obtain ⟨x, hx⟩ := get_of_lt (l := s.cs) (k := 0) (by omega)
 have hxn : x.beds.length = s.sd.n := (sd_n hx).symm
 have HX := Lib.hid (And.intro hx hxn)
 have HN5 := Lib.hid hs.beds
 have HL := Lib.hid hl
 have HF : Hid (newer w (((w.alloc (.cells (lkC s f t) 115)).alloc (.cells #[.slice A l.length c] 25)).alloc (.cells #[vi bigN] 3)) /\ Whole (((w.alloc (.cells (lkC s f t) 115)).alloc (.cells #[.slice A l.length c] 25)).alloc (.cells #[vi bigN] 3)) w.heap.size 115 (lkC s f t) /\ Whole (((w.alloc (.cells (lkC s f t) 115)).alloc (.cells #[.slice A l.length c] 25)).alloc (.cells #[vi bigN] 3)) (w.heap.size + 1) 25 #[.slice A l.length c] /\ Whole (((w.alloc (.cells (lkC s f t) 115)).alloc (.cells #[.slice A l.length c] 25)).alloc (.cells #[vi bigN] 3)) (w.heap.size + 1 + 1) 3 #[vi bigN]) := Lib.hid (by
  have e1 := newer_allocH w (.cells (lkC s f t) 115)
  have e2 := newer_allocH (w.alloc (.cells (lkC s f t) 115)) (.cells #[.slice A l.length c] 25)
  have e3 := newer_allocH ((w.alloc (.cells (lkC s f t) 115)).alloc (.cells #[.slice A l.length c] 25)) (.cells #[vi bigN] 3)
  have a1 := Whole.made w 115 (lkC s f t)
  have a2 := Whole.made (w.alloc (.cells (lkC s f t) 115)) 25 #[.slice A l.length c]
  have a3 := Whole.made ((w.alloc (.cells (lkC s f t) 115)).alloc (.cells #[.slice A l.length c] 25)) 3 #[vi bigN]
  rw [World.size_alloc] at a2
  rw [World.size_alloc, World.size_alloc] at a3
  exact ⟨newer_trans (newer_trans e1 e2) e3, (a1.below e2 a1.lt).below e3 (by simp; omega), a2.below e3 a2.lt, a3⟩)
 clear hok hs hl hr hx hxn hcl
 refine callsIn_wide.1 (callsIn_of_wp_marks (n := 9) Try.func82 rfl trivial ?_ rfl)
 simp only [Try.ntmps82, List.size_toArray, List.length_cons, List.length_nil, Nat.reduceAdd, Nat.reduceSub, Array.replicate_succ, Array.replicate_zero, List.push_toArray, List.append_toArray, List.nil_append, List.cons_append]
 refine wpIn_wide.2 ?_
 go_upto_region 2 with fail
 refine genQ (fun X => newer w X /\ Whole X w.heap.size 115 (lkC s f t) /\ Whole X (w.heap.size + 1) 25 #[.slice A l.length c] /\ Whole X (w.heap.size + 1 + 1) 3 #[vi bigN]) HF.out ?_
 clear HF
 rintro w2 ⟨p1, p2, p3, p4⟩
 have l0 := p2.at 0 (v := .slice s.a s.cs.length s.c) rfl
 have l1 := p2.at 1 (v := vi s.least) rfl
 have l2 := p2.at 2 (v := vi f) rfl
 have l3 := p2.at 3 (v := .func (.func (trF t)) #[] #[]) rfl
 have H2 := Lib.hid (And.intro p1 (And.intro p2 (And.intro p3 p4)))
 clear p1 p2 p3 p4
 go_wp2_with fail
 refine (next_any s f t b _).mono ?_
 rintro e w6 ⟨rfl, hw6⟩
 have HX6 : Hid (newer w w6 /\ Whole w6 (w.heap.size + 1) 25 #[.slice A l.length c] /\ Whole w6 (w.heap.size + 1 + 1) 3 #[vi bigN] /\ Whole w6 (w2.heap.size + 1) 3 #[vi b] /\ Whole w6 w2.heap.size 115 (lkC s f t) /\ w.heap.size + 1 + 1 < w2.heap.size) := Lib.hid (by
  have e1 : newer w2 (w2.alloc (.cells (lkC s f t) 115)) := newer_allocH _ _
  have e2 : newer (w2.alloc (.cells (lkC s f t) 115)) w6 := hw6 ▸ newer_allocH _ _
  have e3 := newer_trans e1 e2
  obtain ⟨a1, a2, a3, a4⟩ := H2.out
  refine ⟨newer_trans a1 e3, a3.below e3 a3.lt, a4.below e3 a4.lt, ?_, ?_, a4.lt⟩
  ·rw [<- hw6]
   have e5 := Whole.made (w2.alloc (.cells (lkC s f t) 115)) 3 #[vi b]
   rw [World.size_alloc] at e5
   exact e5
  ·have e4 := Whole.made w2 115 (lkC s f t)
   exact e4.below e2 e4.lt)
 obtain ⟨lb, hlb⟩ : ∃ lb, lb = w2.heap.size := ⟨_, rfl⟩
 rw [<- hlb] at HX6 ⊢
 obtain ⟨nb, hnb⟩ : ∃ nb, nb = w.heap.size + 1 + 1 := ⟨_, rfl⟩
 have HNB := Lib.hid hnb
 rw [<- hnb] at HX6 ⊢
 clear hlb hnb hw6 H2 l0 l1 l2 l3
 go_wp2_with fail
 refine (wpIn_wide (n := 9)).1 (range_law (gf := 115) (lb := #[.pointer (some ⟨lb + 1, 0, none⟩), .pointer (some ⟨lb, 0, none⟩)]) rfl (enters_of Try.func115 (by kernel_rfl) rfl) ?_)
 intro r0 r1 r2 r3 r4 r5 r6
 refine (callsIn_wide.1 (next_in 8 (w6.heap.size + 1) (lb + 1) lb s f t x b HX.out.1 (by rw [HX.out.2]; exact hb) (by rw [HX.out.2]; have := HN5.out; omega) (fun k W => BhJ s f t A c l b nb (lb + 1) lb w6.heap.size (minL bigN (((nearL s.sd.n b).take k).map (iAt l))) r0 w W) ?hJ ?hN ?hY _ ?h0)).mono ?_
 case hJ => exact fun k W hj => ⟨hj.bx, hj.lx, HOK.out.1.next hj.nw⟩
 case hN => exact fun k W W' hj hb => hj.next hb
 case h0 =>
  have e1 := newer_trans (newer_allocH w6 (.deferred (some []))) (newer_allocH (w6.alloc (.deferred (some []))) (.loop r0))
  obtain ⟨a1, a2, a3, a5, a6, a7⟩ := HX6.out
  have b3 := HNB.out
  have b4 := a5.lt
  refine ⟨newer_trans a1 e1, a2.below e1 a2.lt, a3.below e1 a3.lt, a5.below e1 a5.lt, a6.below e1 a6.lt, ?_, ?_, by omega⟩
  ·simp only [heap_if, World.size_alloc]
   repeat rw [if_neg (by omega)]
   rfl
  ·simp only [heap_if, World.size_alloc]
   repeat rw [if_neg (by omega)]
   rfl
 case hY =>
  intro k W hk hj
  rw [show ((loN b : Nat) : Int) + (k : Int) = ((loN b + k : Nat) : Int) from rfl]
  rw [HX.out.2] at hk
  rw [near_take s.sd.n b k _ hk]
  have hkn : loN b + k < s.sd.n := by
   unfold cntN at hk
   unfold loN
   omega
  have hkll : loN b + k < l.length := by rw [HL.out]; exact hkn
  obtain ⟨rv, hrv⟩ : ∃ rv, rv = iAt l (loN b + k) := ⟨_, rfl⟩
  obtain ⟨ab, ao, eA, c0⟩ := row1k ((HOK.out.2.below hj.nw).more hj.nw.size) hkll
  rw [<- hrv] at c0 ⊢
  obtain ⟨nk, hnk⟩ : ∃ nk, nk = minL bigN (((nearL s.sd.n b).take k).map (iAt l)) := ⟨_, rfl⟩
  rw [<- hnk] at hj ⊢
  have HCC : Hid (∀ W', newer w W' -> W'.cell? ⟨ab, ao + (loN b + k), none⟩ = some (vi rv)) := Lib.hid (fun W' hW' => by
   obtain ⟨ab2, ao2, eA2, c2⟩ := row1k ((HOK.out.2.below hW').more hW'.size) hkll
   rw [eA] at eA2
   injection eA2 with eA2
   injection eA2 with e1 e2
   subst e1
   subst e2
   rw [<- hrv] at c2
   exact c2)
  have HEA := Lib.hid eA
  obtain ⟨z, hz⟩ : ∃ z, z = loN b + k := ⟨_, rfl⟩
  rw [<- hz] at hkn hkll HCC ⊢
  clear hrv hnk c0 eA hz hkn
  refine yield_round (r := r0) hj.lo r1 r2 (by rw [r4]; rfl) ?_
  rw [r3, r4, r5, r6]
  simp only [List.zip_toArray, List.zip_cons_cons, List.zip_nil_right, List.foldl_toArray, List.foldl_cons, List.foldl_nil, List.setIfInBounds_toArray, List.set_cons_zero, List.set_cons_succ]
  gi_wp2_with fail
  refine ⟨hj.lo, ?_⟩
  have hj5 := hj.put (busyOf r0)
  obtain ⟨w7, hw7⟩ : ∃ w7, w7 = W.putObj (w6.heap.size + 1) (.loop (busyOf r0)) := ⟨_, rfl⟩
  rw [<- hw7] at hj5 ⊢
  clear hw7 hj W
  obtain ⟨bb, hbb⟩ : ∃ bb, bb = lb + 1 := ⟨_, rfl⟩
  obtain ⟨D, hD⟩ : ∃ D, D = w6.heap.size := ⟨_, rfl⟩
  rw [<- hbb, <- hD] at hj5 ⊢
  have HJ := Lib.hid hj5
  have n0 := hj5.nx.at 0 (v := vi nk) rfl
  have s0 := hj5.sl.at 0 (v := .slice A l.length c) rfl
  have c0 := HCC.out w7 hj5.nw
  rw [HEA.out] at s0
  have hkl : (z : Int) < l.length := by omega
  clear hj5 r1 r2 r3 r4 r5 r6 hbb hD HX6
  gi_wp2_with fail
  refine round_words (by kernel_rfl) (by kernel_rfl) (fun _ _ h => h) (region_told 7 (by kernel_rfl) (by kernel_rfl) (fun W => Below w7.heap.size w7 W) newer (pickD [vIs (vi nk), vIs (.slice (some ⟨ab, ao, none⟩) l.length c), vIs (vi z), vIs (.pointer (some ⟨ab, ao + z, none⟩)), vIs (vi rv), vTwoN w7.heap.size nk rv, vIs (vi (mnI nk rv))]) (fun h k => newer_trans h k) (pickD_stable _ ⟨vIs_st, vIs_st, vIs_st, vIs_st, vIs_st, vTwoN_st, vIs_st, trivial⟩) (Below.refl _ w7).drew (Below.refl _ _) ?_ ?_)
  ·refine ⟨?_, ?_, ?_, ?_, ?_, ?_, ?_, trivial⟩
   ·intro a W hG hR hO hp; have h7 := hO.slot 7 (by kernel_rfl); have c0 := keep_cell n0 hG; refine kY (v := vi nk) hG rfl ?_; simp [slotOf] at h7; simp [execOp, go_sem, h7, c0]
   ·intro a W hG hR hO hp; have h4 := hO.slot 4 (by kernel_rfl); have c0 := keep_cell s0 hG; refine kY (v := .slice (some ⟨ab, ao, none⟩) l.length c) hG rfl ?_; simp [slotOf] at h4; simp [execOp, go_sem, h4, c0]
   ·exact fun a W hG _ hO _ => kM 8 rfl (hO.slot 8 (by kernel_rfl)) rfl hG
   ·intro a W hG hR hO hp; have h14 : slotOf a 14 = .slice (some ⟨ab, ao, none⟩) l.length c := hp.1; have h15 : slotOf a 15 = vi z := hp.2.1; refine kY (v := .pointer (some ⟨ab, ao + z, none⟩)) hG rfl ?_; simp [slotOf] at h14 h15; simp [execOp, go_sem, h14, h15, hkl]
   ·intro a W hG hR hO hp; have h16 : slotOf a 16 = .pointer (some ⟨ab, ao + z, none⟩) := hp.1; have c0 := keep_cell c0 hG; refine kY (v := vi rv) hG rfl ?_; simp [slotOf] at h16; simp [execOp, go_sem, h16, c0]
   ·intro a W hG hR hO hp; have h13 : slotOf a 13 = vi nk := hp.1; have h17 : slotOf a 17 = vi rv := hp.2.1; refine wp_makes (v := .slice (some ⟨W.heap.size, 0, none⟩) 2 2) (W' := W.alloc (.cells #[vi nk, vi rv] 3)) ?_ ⟨_, rfl, ⟨W.heap.size, rfl, hG.size, Whole.made _ _ _⟩, newer_allocH _ _, below_next hG (newer_allocH _ _)⟩; simp [slotOf] at h13 h17; simp [execOp, go_sem, h13, h17]
   ·intro a W hG hR hO hp
    have h18 := hp.1
    obtain ⟨q, h18, hq1, hq3⟩ := h18
    refine wp_enters (f := 83) (args := #[.slice (some ⟨q, 0, none⟩) 2 2]) ?_ ((least2_any nk rv q 2 W hq3).mono ?_)
    ·simp [slotOf] at h18
     simp [go_sem, h18]
    ·rintro e w' ⟨rfl, rfl⟩
     exact ⟨_, rfl, _, rfl, rfl, Below.refl _ _, hG⟩
  ·intro wz hG hR
   rintro _ rfl _ rfl _ rfl _ rfl _ rfl _ - _ rfl
   change wpList _ _ _ _ _ _
   simp only [Act.put, List.setIfInBounds_toArray, List.set_cons_zero, List.set_cons_succ, List.drop_succ_cons, List.drop_zero]
   have hjz := HJ.out.next hG
   have n0 := hjz.nx.at 0 (v := vi nk) rfl
   have nf := hjz.nx.free 0
   have hS := hjz.set (mnI nk rv)
   have HX8 := Lib.hid (And.intro hS.lo (hS.put r0))
   clear hS hG hR hjz
   go_wp2_with fail
   refine onlyN_intro ?_
   gi_wp2_with fail
   exact ⟨HX8.out.1, rfl, HX8.out.2⟩
 ·rintro e W ⟨⟨v, rfl⟩, hj⟩
  refine ⟨⟨_, rfl⟩, .inl ⟨hj.lo, ?_⟩⟩
  rw [HX.out.2, near_all] at hj
  obtain ⟨nz, hnz⟩ : ∃ nz, nz = minL bigN ((nearL s.sd.n b).map (iAt l)) := ⟨_, rfl⟩
  rw [<- hnz] at hj
  have HV := Lib.hid (show nz = behindN bigN s.sd.n (iAt l) b from hnz)
  clear hnz
  have hj2 := hj.put (overOf r0)
  have HJ := Lib.hid hj2
  have n0 := hj2.nx.at 0 (v := vi nz) rfl
  clear hj hj2 r1 r2 r3 r4 r5 r6 HX6
  go_wp2_with fail
  refine ⟨by simp, .inl ⟨_, _, rfl, run_takeDeferred HJ.out.df, ?_⟩⟩
  refine ⟨_, by simp [results, Try.results82, go_sem]; rfl, by rw [HV.out], newer_put HJ.out.nw (by have := HJ.out.so; omega) _⟩
end

section
open Go.RowKit Go.Shelf Go.Deep
structure Ln where
 l : List Int
 a : Option Addr
 c : Nat
structure Rw where
 ls : List Ln
 a : Option Addr
 c : Nat
abbrev lnL (x : Ln) : List Value := [.slice x.a x.l.length x.c]
abbrev lnV (x : Ln) : Value := .slice x.a x.l.length x.c
abbrev rwL (x : Rw) : List Value := [.slice x.a x.ls.length x.c]
abbrev rwV (x : Rw) : Value := .slice x.a x.ls.length x.c
def Rw.d (r : Rw) : List (List Int) := r.ls.map (·.l)
structure TbOk (ts : List Rw) (A : Option Addr) (W : World) : Prop where
 rows : Row rwL 1 W W.heap.size A ts
 lss : ∀ r ∈ ts, Row lnL 1 W W.heap.size r.a r.ls
 nums : ∀ r ∈ ts, ∀ x ∈ r.ls, Row intL 1 W W.heap.size x.a x.l
theorem TbOk.next {ts : List Rw} {A : Option Addr} {W W' : World} (h : TbOk ts A W) (hb : newer W W') : TbOk ts A W' := ⟨(h.rows.below hb).more hb.size, fun r hr => ((h.lss r hr).below hb).more hb.size, fun r hr x hx => ((h.nums r hr x hx).below hb).more hb.size⟩
structure TbFew (ts : List Rw) : Prop where
 rows : ts.length <= 1000
 lss : ∀ r ∈ ts, r.ls.length <= 1000
 nums : ∀ r ∈ ts, ∀ x ∈ r.ls, x.l.length <= 1000
theorem rowLn {w : World} {B : Nat} {A : Option Addr} {l : List Ln} (h : Row lnL 1 w B A l) {k : Nat} {c : Ln} (hk : l[k]? = some c) :
  ∃ b off, A = some ⟨b, off, none⟩ /\ b < B /\ w.cell? ⟨b, off + k, none⟩ = some (.slice c.a c.l.length c.c) := by
 obtain ⟨b, off, e, hb, hc⟩ := h (ne_nil_of_get hk)
 exact ⟨b, off, e, hb, by simpa using hc k c hk 0 _ rfl⟩
theorem rowRw {w : World} {B : Nat} {A : Option Addr} {l : List Rw} (h : Row rwL 1 w B A l) {k : Nat} {c : Rw} (hk : l[k]? = some c) :
  ∃ b off, A = some ⟨b, off, none⟩ /\ b < B /\ w.cell? ⟨b, off + k, none⟩ = some (.slice c.a c.ls.length c.c) := by
 obtain ⟨b, off, e, hb, hc⟩ := h (ne_nil_of_get hk)
 exact ⟨b, off, e, hb, by simpa using hc k c hk 0 _ rfl⟩
theorem rowI {w : World} {B : Nat} {A : Option Addr} {l : List Int} (h : Row intL 1 w B A l) {k : Nat} {c : Int} (hk : l[k]? = some c) :
  ∃ b off, A = some ⟨b, off, none⟩ /\ b < B /\ w.cell? ⟨b, off + k, none⟩ = some (.int .i64 c) := by
 obtain ⟨b, off, e, hb, hc⟩ := h (ne_nil_of_get hk)
 exact ⟨b, off, e, hb, by simpa using hc k c hk 0 _ rfl⟩
def shL (n : Nat) (l : List Int) : Bool := decide (l.length = n) && l.all fun v => inB v (-bigN) bigN
def shR (n cols : Nat) (r : List (List Int)) : Bool := decide (r.length = cols) && r.all (shL n)
def shT (n cols : Nat) (K : Int) (t : List (List (List Int))) : Bool := decide ((t.length : Int) = K) && t.all (shR n cols)
set_option maxHeartbeats 400000 in
theorem notIn_any (x : Int) (rb : Nat) (b : Bool) (w : World) (hr : w.cell? ⟨rb, 0, none⟩ = some (.func (.func 102) #[] #[]))
  (hf : ∀ W, Below w.heap.size w W -> Calls Try.prog 102 #[vi x] W fun e w' => e = .returned (.bool b) /\ Below W.heap.size W w') :
  Calls Try.prog 117 #[vi x, .pointer (some ⟨rb, 0, none⟩)] w fun e w' => e = .returned (.bool (!b)) /\ Below w.heap.size w w' := by
 have HF := Lib.hid hf
 have hlt := World.block_lt_of_cell? w _ hr
 dsimp only at hlt
 clear hf
 go_enter Try.func117, Try.ntmps117
 go_wp2_with (go_at_call 102; refine (HF.out _ (Below.refl _ _)).mono ?_; rintro e w' ⟨rfl, hb⟩)
 go_ret
 exact ⟨rfl, hb⟩
set_option maxHeartbeats 400000 in
theorem idxIn_any (l : List Int) (p : Int -> Bool) (cp rb : Nat) (A : Option Addr) (w : World) (hn : l.length <= 1000) (hrow : Row intL 1 w w.heap.size A l)
  (hf : ∀ c ∈ l, ∀ W, Below w.heap.size w W -> Calls Try.prog 117 #[vi c, .pointer (some ⟨rb, 0, none⟩)] W fun e w' => e = .returned (.bool (p c)) /\ Below W.heap.size W w') :
  Calls Try.prog 124 #[.slice A l.length cp, .func (.func 117) #[] #[.pointer (some ⟨rb, 0, none⟩)]] w fun e w' => e = .returned (.int .i64 (idx p l)) /\ Below w.heap.size w w' := by
 have HF := Lib.hid hf
 clear hf
 obtain ⟨n, hnl⟩ : ∃ n, n = l.length := ⟨_, rfl⟩
 rw [<- hnl] at hn ⊢
 have HN := Lib.hid hnl
 clear hnl
 go_enter Try.func124, Try.ntmps124
 go_wp2
 go_loopw [4, 5, 8] (fun _ _ i wr => ∃ k : Nat, k <= n /\ i = .int .i64 k /\ Below w.heap.size w wr /\ early p l k) (fun _ _ i _ => n - (intOf i).toNat)
 case atStart => exact ⟨0, Nat.zero_le _, rfl, Below.refl _ _, early_zero _ _⟩
 case round =>
  obtain ⟨k, hk, rfl, hbw, he⟩ := hrel
  have HE := Lib.hid he
  clear he
  by_cases hlt : k < n
  ·obtain ⟨c, hc⟩ := get_of_lt (l := l) (k := k) (by have := HN.out; omega)
   obtain ⟨b, off, rfl, hb, h0⟩ := rowI (hrow.below hbw) hc
   have HC := Lib.hid hc
   clear hc
   cases hp : p c
   ·go_wp2_with (go_at_call 117; refine (HF.out c (List.mem_of_getElem? HC.out) _ hbw).mono ?_; rintro e w' ⟨rfl, hb2⟩)
    go_roundw
    case rel => exact ⟨k + 1, by omega, by go_num, below_next hbw hb2, early_succ HE.out HC.out hp⟩
    case measure => simp [intOf]; omega
   ·go_wp2_with (go_at_call 117; refine (HF.out c (List.mem_of_getElem? HC.out) _ hbw).mono ?_; rintro e w' ⟨rfl, hb2⟩)
    go_ret
    exact ⟨ret_int (idx_here p l k c HC.out hp HE.out).symm, below_next hbw hb2⟩
  ·go_wp2_with fail
   go_ret
   have hkn : k = l.length := by have := HN.out; omega
   exact ⟨ret_int (idx_none p l (hkn ▸ HE.out)).symm, hbw⟩
set_option maxHeartbeats 400000 in
theorem containsIn_any (l : List Int) (p : Int -> Bool) (cp rb : Nat) (A : Option Addr) (w : World) (hn : l.length <= 1000) (hrow : Row intL 1 w w.heap.size A l)
  (hf : ∀ c ∈ l, ∀ W, Below w.heap.size w W -> Calls Try.prog 117 #[vi c, .pointer (some ⟨rb, 0, none⟩)] W fun e w' => e = .returned (.bool (p c)) /\ Below W.heap.size W w') :
  Calls Try.prog 116 #[.slice A l.length cp, .func (.func 117) #[] #[.pointer (some ⟨rb, 0, none⟩)]] w fun e w' => e = .returned (.bool (decide (0 <= idx p l))) /\ Below w.heap.size w w' := by
 have HF := Lib.hid hf
 clear hf
 go_enter Try.func116, Try.ntmps116
 go_wp2_with (go_at_call 124; refine (idxIn_any l p cp rb A _ hn hrow HF.out).mono ?_; rintro e w' ⟨rfl, hb2⟩)
 go_ret
 exact ⟨rfl, hb2⟩
set_option maxHeartbeats 400000 in
theorem allIn_any (l : List Int) (p : Int -> Bool) (cp : Nat) (A : Option Addr) (w : World) (hn : l.length <= 1000) (hrow : Row intL 1 w w.heap.size A l)
  (hf : ∀ c ∈ l, ∀ W, Below w.heap.size w W -> Calls Try.prog 102 #[vi c] W fun e w' => e = .returned (.bool (p c)) /\ Below W.heap.size W w') :
  Calls Try.prog 104 #[.slice A l.length cp, .func (.func 102) #[] #[]] w fun e w' => e = .returned (.bool (l.all p)) /\ Below w.heap.size w w' := by
 have hX := containsIn_any l (fun c => !p c) cp w.heap.size A (w.alloc (.cells #[.func (.func 102) #[] #[]] 124)) hn (hrow_ok hrow _) (fun c hc W hW => notIn_any c w.heap.size (p c) W (keep_cell (Whole.at (Whole.made w 124 #[.func (.func 102) #[] #[]]) 0 rfl) hW) fun W' hW' => hf c hc W' (below_next (below_next ((Below.refl _ _).alloc (Nat.le_refl _) _) hW) hW'))
 have HX := Lib.hid hX
 clear hX hf
 go_enter Try.func104, Try.ntmps104
 go_wp2_with (go_at_call 116; refine (HX.out).mono ?_; rintro e w' ⟨rfl, hb2⟩)
 go_ret
 exact ⟨ret_bool (idx_all p l), below_next ((Below.refl _ _).alloc (Nat.le_refl _) _) hb2⟩
set_option maxHeartbeats 400000 in
theorem notLn_any (x : Ln) (rb : Nat) (b : Bool) (w : World) (na nb : Nat) (hr : w.cell? ⟨rb, 0, none⟩ = some (.func (.func 103) #[] #[.pointer (some ⟨na, 0, none⟩), .pointer (some ⟨nb, 0, none⟩)]))
  (hf : ∀ W, Below w.heap.size w W -> Calls Try.prog 103 #[lnV x, .pointer (some ⟨na, 0, none⟩), .pointer (some ⟨nb, 0, none⟩)] W fun e w' => e = .returned (.bool b) /\ Below W.heap.size W w') :
  Calls Try.prog 121 #[lnV x, .pointer (some ⟨rb, 0, none⟩)] w fun e w' => e = .returned (.bool (!b)) /\ Below w.heap.size w w' := by
 have HF := Lib.hid hf
 have hlt := World.block_lt_of_cell? w _ hr
 dsimp only at hlt
 clear hf
 go_enter Try.func121, Try.ntmps121
 go_wp2_with (go_at_call 103; refine (HF.out _ (Below.refl _ _)).mono ?_; rintro e w' ⟨rfl, hb⟩)
 go_ret
 exact ⟨rfl, hb⟩
set_option maxHeartbeats 400000 in
theorem idxLn_any (l : List Ln) (p : Ln -> Bool) (cp rb : Nat) (A : Option Addr) (w : World) (hn : l.length <= 1000) (hrow : Row lnL 1 w w.heap.size A l)
  (hf : ∀ c ∈ l, ∀ W, Below w.heap.size w W -> Calls Try.prog 121 #[lnV c, .pointer (some ⟨rb, 0, none⟩)] W fun e w' => e = .returned (.bool (p c)) /\ Below W.heap.size W w') :
  Calls Try.prog 126 #[.slice A l.length cp, .func (.func 121) #[] #[.pointer (some ⟨rb, 0, none⟩)]] w fun e w' => e = .returned (.int .i64 (idx p l)) /\ Below w.heap.size w w' := by
 have HF := Lib.hid hf
 clear hf
 obtain ⟨n, hnl⟩ : ∃ n, n = l.length := ⟨_, rfl⟩
 rw [<- hnl] at hn ⊢
 have HN := Lib.hid hnl
 clear hnl
 go_enter Try.func126, Try.ntmps126
 go_wp2
 go_loopw [4, 5, 8] (fun _ _ i wr => ∃ k : Nat, k <= n /\ i = .int .i64 k /\ Below w.heap.size w wr /\ early p l k) (fun _ _ i _ => n - (intOf i).toNat)
 case atStart => exact ⟨0, Nat.zero_le _, rfl, Below.refl _ _, early_zero _ _⟩
 case round =>
  obtain ⟨k, hk, rfl, hbw, he⟩ := hrel
  have HE := Lib.hid he
  clear he
  by_cases hlt : k < n
  ·obtain ⟨c, hc⟩ := get_of_lt (l := l) (k := k) (by have := HN.out; omega)
   obtain ⟨b, off, rfl, hb, h0⟩ := rowLn (hrow.below hbw) hc
   have HC := Lib.hid hc
   clear hc
   cases hp : p c
   ·go_wp2_with (go_at_call 121; refine (HF.out c (List.mem_of_getElem? HC.out) _ hbw).mono ?_; rintro e w' ⟨rfl, hb2⟩)
    go_roundw
    case rel => exact ⟨k + 1, by omega, by go_num, below_next hbw hb2, early_succ HE.out HC.out hp⟩
    case measure => simp [intOf]; omega
   ·go_wp2_with (go_at_call 121; refine (HF.out c (List.mem_of_getElem? HC.out) _ hbw).mono ?_; rintro e w' ⟨rfl, hb2⟩)
    go_ret
    exact ⟨ret_int (idx_here p l k c HC.out hp HE.out).symm, below_next hbw hb2⟩
  ·go_wp2_with fail
   go_ret
   have hkn : k = l.length := by have := HN.out; omega
   exact ⟨ret_int (idx_none p l (hkn ▸ HE.out)).symm, hbw⟩
set_option maxHeartbeats 400000 in
theorem containsLn_any (l : List Ln) (p : Ln -> Bool) (cp rb : Nat) (A : Option Addr) (w : World) (hn : l.length <= 1000) (hrow : Row lnL 1 w w.heap.size A l)
  (hf : ∀ c ∈ l, ∀ W, Below w.heap.size w W -> Calls Try.prog 121 #[lnV c, .pointer (some ⟨rb, 0, none⟩)] W fun e w' => e = .returned (.bool (p c)) /\ Below W.heap.size W w') :
  Calls Try.prog 120 #[.slice A l.length cp, .func (.func 121) #[] #[.pointer (some ⟨rb, 0, none⟩)]] w fun e w' => e = .returned (.bool (decide (0 <= idx p l))) /\ Below w.heap.size w w' := by
 have HF := Lib.hid hf
 clear hf
 go_enter Try.func120, Try.ntmps120
 go_wp2_with (go_at_call 126; refine (idxLn_any l p cp rb A _ hn hrow HF.out).mono ?_; rintro e w' ⟨rfl, hb2⟩)
 go_ret
 exact ⟨rfl, hb2⟩
set_option maxHeartbeats 400000 in
theorem allLn_any (l : List Ln) (p : Ln -> Bool) (cp : Nat) (A : Option Addr) (w : World) (na nb : Nat) (hn : l.length <= 1000) (hrow : Row lnL 1 w w.heap.size A l)
  (hf : ∀ c ∈ l, ∀ W, Below w.heap.size w W -> Calls Try.prog 103 #[lnV c, .pointer (some ⟨na, 0, none⟩), .pointer (some ⟨nb, 0, none⟩)] W fun e w' => e = .returned (.bool (p c)) /\ Below W.heap.size W w') :
  Calls Try.prog 107 #[.slice A l.length cp, .func (.func 103) #[] #[.pointer (some ⟨na, 0, none⟩), .pointer (some ⟨nb, 0, none⟩)]] w fun e w' => e = .returned (.bool (l.all p)) /\ Below w.heap.size w w' := by
 have hX := containsLn_any l (fun c => !p c) cp w.heap.size A (w.alloc (.cells #[.func (.func 103) #[] #[.pointer (some ⟨na, 0, none⟩), .pointer (some ⟨nb, 0, none⟩)]] 154)) hn (hrow_ok hrow _) (fun c hc W hW => notLn_any c w.heap.size (p c) W na nb (keep_cell (Whole.at (Whole.made w 154 #[.func (.func 103) #[] #[.pointer (some ⟨na, 0, none⟩), .pointer (some ⟨nb, 0, none⟩)]]) 0 rfl) hW) fun W' hW' => hf c hc W' (below_next (below_next ((Below.refl _ _).alloc (Nat.le_refl _) _) hW) hW'))
 have HX := Lib.hid hX
 clear hX hf
 go_enter Try.func107, Try.ntmps107
 go_wp2_with (go_at_call 120; refine (HX.out).mono ?_; rintro e w' ⟨rfl, hb2⟩)
 go_ret
 exact ⟨ret_bool (idx_all p l), below_next ((Below.refl _ _).alloc (Nat.le_refl _) _) hb2⟩
set_option maxHeartbeats 400000 in
theorem notRw_any (x : Rw) (rb : Nat) (b : Bool) (w : World) (na nb : Nat) (hr : w.cell? ⟨rb, 0, none⟩ = some (.func (.func 106) #[] #[.pointer (some ⟨na, 0, none⟩), .pointer (some ⟨nb, 0, none⟩)]))
  (hf : ∀ W, Below w.heap.size w W -> Calls Try.prog 106 #[rwV x, .pointer (some ⟨na, 0, none⟩), .pointer (some ⟨nb, 0, none⟩)] W fun e w' => e = .returned (.bool b) /\ Below W.heap.size W w') :
  Calls Try.prog 119 #[rwV x, .pointer (some ⟨rb, 0, none⟩)] w fun e w' => e = .returned (.bool (!b)) /\ Below w.heap.size w w' := by
 have HF := Lib.hid hf
 have hlt := World.block_lt_of_cell? w _ hr
 dsimp only at hlt
 clear hf
 go_enter Try.func119, Try.ntmps119
 go_wp2_with (go_at_call 106; refine (HF.out _ (Below.refl _ _)).mono ?_; rintro e w' ⟨rfl, hb⟩)
 go_ret
 exact ⟨rfl, hb⟩
set_option maxHeartbeats 400000 in
theorem idxRw_any (l : List Rw) (p : Rw -> Bool) (cp rb : Nat) (A : Option Addr) (w : World) (hn : l.length <= 1000) (hrow : Row rwL 1 w w.heap.size A l)
  (hf : ∀ c ∈ l, ∀ W, Below w.heap.size w W -> Calls Try.prog 119 #[rwV c, .pointer (some ⟨rb, 0, none⟩)] W fun e w' => e = .returned (.bool (p c)) /\ Below W.heap.size W w') :
  Calls Try.prog 125 #[.slice A l.length cp, .func (.func 119) #[] #[.pointer (some ⟨rb, 0, none⟩)]] w fun e w' => e = .returned (.int .i64 (idx p l)) /\ Below w.heap.size w w' := by
 have HF := Lib.hid hf
 clear hf
 obtain ⟨n, hnl⟩ : ∃ n, n = l.length := ⟨_, rfl⟩
 rw [<- hnl] at hn ⊢
 have HN := Lib.hid hnl
 clear hnl
 go_enter Try.func125, Try.ntmps125
 go_wp2
 go_loopw [4, 5, 8] (fun _ _ i wr => ∃ k : Nat, k <= n /\ i = .int .i64 k /\ Below w.heap.size w wr /\ early p l k) (fun _ _ i _ => n - (intOf i).toNat)
 case atStart => exact ⟨0, Nat.zero_le _, rfl, Below.refl _ _, early_zero _ _⟩
 case round =>
  obtain ⟨k, hk, rfl, hbw, he⟩ := hrel
  have HE := Lib.hid he
  clear he
  by_cases hlt : k < n
  ·obtain ⟨c, hc⟩ := get_of_lt (l := l) (k := k) (by have := HN.out; omega)
   obtain ⟨b, off, rfl, hb, h0⟩ := rowRw (hrow.below hbw) hc
   have HC := Lib.hid hc
   clear hc
   cases hp : p c
   ·go_wp2_with (go_at_call 119; refine (HF.out c (List.mem_of_getElem? HC.out) _ hbw).mono ?_; rintro e w' ⟨rfl, hb2⟩)
    go_roundw
    case rel => exact ⟨k + 1, by omega, by go_num, below_next hbw hb2, early_succ HE.out HC.out hp⟩
    case measure => simp [intOf]; omega
   ·go_wp2_with (go_at_call 119; refine (HF.out c (List.mem_of_getElem? HC.out) _ hbw).mono ?_; rintro e w' ⟨rfl, hb2⟩)
    go_ret
    exact ⟨ret_int (idx_here p l k c HC.out hp HE.out).symm, below_next hbw hb2⟩
  ·go_wp2_with fail
   go_ret
   have hkn : k = l.length := by have := HN.out; omega
   exact ⟨ret_int (idx_none p l (hkn ▸ HE.out)).symm, hbw⟩
set_option maxHeartbeats 400000 in
theorem containsRw_any (l : List Rw) (p : Rw -> Bool) (cp rb : Nat) (A : Option Addr) (w : World) (hn : l.length <= 1000) (hrow : Row rwL 1 w w.heap.size A l)
  (hf : ∀ c ∈ l, ∀ W, Below w.heap.size w W -> Calls Try.prog 119 #[rwV c, .pointer (some ⟨rb, 0, none⟩)] W fun e w' => e = .returned (.bool (p c)) /\ Below W.heap.size W w') :
  Calls Try.prog 118 #[.slice A l.length cp, .func (.func 119) #[] #[.pointer (some ⟨rb, 0, none⟩)]] w fun e w' => e = .returned (.bool (decide (0 <= idx p l))) /\ Below w.heap.size w w' := by
 have HF := Lib.hid hf
 clear hf
 go_enter Try.func118, Try.ntmps118
 go_wp2_with (go_at_call 125; refine (idxRw_any l p cp rb A _ hn hrow HF.out).mono ?_; rintro e w' ⟨rfl, hb2⟩)
 go_ret
 exact ⟨rfl, hb2⟩
set_option maxHeartbeats 400000 in
theorem allRw_any (l : List Rw) (p : Rw -> Bool) (cp : Nat) (A : Option Addr) (w : World) (na nb : Nat) (hn : l.length <= 1000) (hrow : Row rwL 1 w w.heap.size A l)
  (hf : ∀ c ∈ l, ∀ W, Below w.heap.size w W -> Calls Try.prog 106 #[rwV c, .pointer (some ⟨na, 0, none⟩), .pointer (some ⟨nb, 0, none⟩)] W fun e w' => e = .returned (.bool (p c)) /\ Below W.heap.size W w') :
  Calls Try.prog 105 #[.slice A l.length cp, .func (.func 106) #[] #[.pointer (some ⟨na, 0, none⟩), .pointer (some ⟨nb, 0, none⟩)]] w fun e w' => e = .returned (.bool (l.all p)) /\ Below w.heap.size w w' := by
 have hX := containsRw_any l (fun c => !p c) cp w.heap.size A (w.alloc (.cells #[.func (.func 106) #[] #[.pointer (some ⟨na, 0, none⟩), .pointer (some ⟨nb, 0, none⟩)]] 157)) hn (hrow_ok hrow _) (fun c hc W hW => notRw_any c w.heap.size (p c) W na nb (keep_cell (Whole.at (Whole.made w 157 #[.func (.func 106) #[] #[.pointer (some ⟨na, 0, none⟩), .pointer (some ⟨nb, 0, none⟩)]]) 0 rfl) hW) fun W' hW' => hf c hc W' (below_next (below_next ((Below.refl _ _).alloc (Nat.le_refl _) _) hW) hW'))
 have HX := Lib.hid hX
 clear hX hf
 go_enter Try.func105, Try.ntmps105
 go_wp2_with (go_at_call 118; refine (HX.out).mono ?_; rintro e w' ⟨rfl, hb2⟩)
 go_ret
 exact ⟨ret_bool (idx_all p l), below_next ((Below.refl _ _).alloc (Nat.le_refl _) _) hb2⟩
set_option maxHeartbeats 1000000 in
theorem num_any (v : Int) (w : World) : Calls Try.prog 102 #[vi v] w fun e w' => e = .returned (.bool (inB v (-bigN) bigN)) /\ newer w w' := by
 have HW := Lib.hid (fun W => within_any v (-bigN) bigN W)
 go_enter Try.func102, Try.ntmps102
 go_wp2_with fail
 refine (HW.out _).mono ?_
 rintro e w1 ⟨rfl, rfl⟩
 go_wp2_with fail
 go_ret
 exact ⟨rfl, newer_refl _⟩
set_option maxRecDepth 100000 in
set_option maxHeartbeats 1000000 in
theorem lnShape_any (s : Sm) (f : Int) (t : Option Bool) (x : Ln) (na nb : Nat) (w : World) (hok : SmOk s w) (hs : SdOk s.sd) (hx : Whole w na 115 (lkC s f t)) (hf : Whole w nb 124 #[.func (.func 102) #[] #[]]) (hr : Row intL 1 w w.heap.size x.a x.l) (hl : x.l.length <= 1000) : Calls Try.prog 103 #[lnV x, .pointer (some ⟨na, 0, none⟩), .pointer (some ⟨nb, 0, none⟩)] w fun e w' => e = .returned (.bool (shL s.sd.n x.l)) /\ newer w w' := by
 have hcl := hs.cols
 rw [sd_len] at hcl
 obtain ⟨y, hy⟩ := get_of_lt (l := s.cs) (k := 0) (by omega)
 have hyn : y.beds.length = s.sd.n := (sd_n hy).symm
 have HB : Hid (∀ W, newer w W -> Calls Try.prog 81 #[lkV s f t] W fun e w' => e = .returned (vi s.sd.n) /\ newer W w') := Lib.hid (fun W hW => by
  have h := beds_any s f t y W (hok.next hW) hy
  rw [hyn] at h
  exact h)
 have l0 := hx.at 0 (v := .slice s.a s.cs.length s.c) rfl
 have l1 := hx.at 1 (v := vi s.least) rfl
 have l2 := hx.at 2 (v := vi f) rfl
 have l3 := hx.at 3 (v := .func (.func (trF t)) #[] #[]) rfl
 have f0 := hf.at 0 (v := .func (.func 102) #[] #[]) rfl
 have HF := Lib.hid hf
 have HAL : Hid (∀ W, newer w W -> Calls Try.prog 104 #[.slice x.a x.l.length x.c, .func (.func 102) #[] #[]] W fun e w' => e = .returned (.bool (x.l.all fun v => inB v (-bigN) bigN)) /\ newer W w') := Lib.hid (fun W hW => allIn_any x.l (fun v => inB v (-bigN) bigN) x.c x.a W hl ((hr.below hW).more hW.size) (fun v _ W' _ => num_any v W'))
 unfold shL
 obtain ⟨n, hn⟩ : ∃ n, n = s.sd.n := ⟨_, rfl⟩
 rw [<- hn] at HB ⊢
 obtain ⟨q, hq⟩ : ∃ q, q = x.l.all (fun v => inB v (-bigN) bigN) := ⟨_, rfl⟩
 rw [<- hq] at HAL ⊢
 obtain ⟨m, hm⟩ : ∃ m, m = x.l.length := ⟨_, rfl⟩
 rw [<- hm] at HAL ⊢
 simp only [lnV]
 rw [<- hm]
 clear hok hs hcl hy hyn hx hf hr hl hn hq hm
 by_cases he : m = n
 ·have h1 : ((m : Int) == (n : Int)) = true := by rw [he]; simp
  have HE := Lib.hid (decide_eq_true he)
  clear he
  go_enter Try.func103, Try.ntmps103
  go_wp2_with fail
  refine (HB.out _ (newer_refl _)).mono ?_
  rintro e w1 ⟨rfl, hb⟩
  have f0 := keep_cell f0 hb
  have HN := Lib.hid hb
  clear hb l0 l1 l2 l3
  go_wp2_with fail
  refine (HAL.out _ HN.out).mono ?_
  rintro e w2 ⟨rfl, hb⟩
  have HN2 := Lib.hid (newer_trans HN.out hb)
  clear hb
  go_wp2_with fail
  go_ret
  exact ⟨by rw [HE.out] <;> rfl, HN2.out⟩
 ·have h1 : ((m : Int) == (n : Int)) = false := by rw [beq_eq_false_iff_ne]; omega
  have HE := Lib.hid (decide_eq_false he)
  clear he
  go_enter Try.func103, Try.ntmps103
  go_wp2_with fail
  refine (HB.out _ (newer_refl _)).mono ?_
  rintro e w1 ⟨rfl, hb⟩
  have HN := Lib.hid hb
  clear hb l0 l1 l2 l3
  go_wp2_with fail
  go_ret
  exact ⟨by rw [HE.out] <;> rfl, HN.out⟩
set_option maxRecDepth 100000 in
set_option maxHeartbeats 1000000 in
theorem rwShape_any (s : Sm) (f : Int) (t : Option Bool) (x : Rw) (na nb nc : Nat) (w : World) (hok : SmOk s w) (hs : SdOk s.sd) (hx : Whole w na 115 (lkC s f t)) (hf : Whole w nc 124 #[.func (.func 102) #[] #[]]) (hg : Whole w nb 154 #[.func (.func 103) #[] #[.pointer (some ⟨na, 0, none⟩), .pointer (some ⟨nc, 0, none⟩)]]) (hr : Row lnL 1 w w.heap.size x.a x.ls) (hri : ∀ y ∈ x.ls, Row intL 1 w w.heap.size y.a y.l) (hl : x.ls.length <= 1000) (hll : ∀ y ∈ x.ls, y.l.length <= 1000) : Calls Try.prog 106 #[rwV x, .pointer (some ⟨na, 0, none⟩), .pointer (some ⟨nb, 0, none⟩)] w fun e w' => e = .returned (.bool (shR s.sd.n s.cs.length x.d)) /\ newer w w' := by
 have l0 := hx.at 0 (v := .slice s.a s.cs.length s.c) rfl
 have l1 := hx.at 1 (v := vi s.least) rfl
 have l2 := hx.at 2 (v := vi f) rfl
 have l3 := hx.at 3 (v := .func (.func (trF t)) #[] #[]) rfl
 have g0 := hg.at 0 (v := .func (.func 103) #[] #[.pointer (some ⟨na, 0, none⟩), .pointer (some ⟨nc, 0, none⟩)]) rfl
 have HAL := Lib.hid (allLn_any x.ls (fun y => shL s.sd.n y.l) x.c x.a w na nc hl hr (fun y hy W hW => lnShape_any s f t y na nc W (hok.next hW) hs (hx.below hW hx.lt) (hf.below hW hf.lt) (((hri y hy).below hW).more hW.size) (hll y hy)))
 unfold shR Rw.d
 rw [List.length_map, List.all_map, show (shL s.sd.n ∘ fun y : Ln => y.l) = fun y : Ln => shL s.sd.n y.l from rfl]
 obtain ⟨q, hq⟩ : ∃ q, q = x.ls.all (fun y => shL s.sd.n y.l) := ⟨_, rfl⟩
 rw [<- hq] at HAL ⊢
 obtain ⟨m, hm⟩ : ∃ m, m = x.ls.length := ⟨_, rfl⟩
 rw [<- hm] at HAL ⊢
 obtain ⟨n, hn⟩ : ∃ n, n = s.cs.length := ⟨_, rfl⟩
 simp only [rwV]
 rw [<- hm]
 rw [<- hn] at l0 ⊢
 clear hok hs hx hf hg hr hri hl hll hq hm hn
 by_cases he : m = n
 ·have h1 : ((m : Int) == (n : Int)) = true := by rw [he]; simp
  have HE := Lib.hid (decide_eq_true he)
  clear he
  go_enter Try.func106, Try.ntmps106
  go_wp2_with fail
  refine (HAL.out).mono ?_
  rintro e w2 ⟨rfl, hb⟩
  have HN2 := Lib.hid hb
  clear hb
  go_wp2_with fail
  go_ret
  exact ⟨by rw [HE.out] <;> rfl, HN2.out⟩
 ·have h1 : ((m : Int) == (n : Int)) = false := by rw [beq_eq_false_iff_ne]; omega
  have HE := Lib.hid (decide_eq_false he)
  clear he
  go_enter Try.func106, Try.ntmps106
  go_wp2_with fail
  go_ret
  exact ⟨by rw [HE.out] <;> rfl, newer_refl _⟩
set_option maxRecDepth 100000 in
set_option maxHeartbeats 1000000 in
theorem shaped_any (s : Sm) (f : Int) (t : Option Bool) (ts : List Rw) (A : Option Addr) (c : Nat) (w : World) (hok : SmOk s w) (hs : SdOk s.sd) (ht : TbOk ts A w) (few : TbFew ts) : Calls Try.prog 85 #[lkV s f t, .slice A ts.length c] w fun e w' => e = .returned (.bool (shT s.sd.n s.cs.length s.least (ts.map Rw.d))) /\ newer w w' := by
 have HF : Hid (newer w (((w.alloc (.cells (lkC s f t) 115)).alloc (.cells #[.func (.func 102) #[] #[]] 124)).alloc (.cells #[.func (.func 103) #[] #[.pointer (some ⟨w.heap.size, 0, none⟩), .pointer (some ⟨w.heap.size + 1, 0, none⟩)]] 154)) /\ Whole (((w.alloc (.cells (lkC s f t) 115)).alloc (.cells #[.func (.func 102) #[] #[]] 124)).alloc (.cells #[.func (.func 103) #[] #[.pointer (some ⟨w.heap.size, 0, none⟩), .pointer (some ⟨w.heap.size + 1, 0, none⟩)]] 154)) w.heap.size 115 (lkC s f t) /\ Whole (((w.alloc (.cells (lkC s f t) 115)).alloc (.cells #[.func (.func 102) #[] #[]] 124)).alloc (.cells #[.func (.func 103) #[] #[.pointer (some ⟨w.heap.size, 0, none⟩), .pointer (some ⟨w.heap.size + 1, 0, none⟩)]] 154)) (w.heap.size + 1) 124 #[.func (.func 102) #[] #[]] /\ Whole (((w.alloc (.cells (lkC s f t) 115)).alloc (.cells #[.func (.func 102) #[] #[]] 124)).alloc (.cells #[.func (.func 103) #[] #[.pointer (some ⟨w.heap.size, 0, none⟩), .pointer (some ⟨w.heap.size + 1, 0, none⟩)]] 154)) (w.heap.size + 1 + 1) 154 #[.func (.func 103) #[] #[.pointer (some ⟨w.heap.size, 0, none⟩), .pointer (some ⟨w.heap.size + 1, 0, none⟩)]]) := Lib.hid (by
  have e1 := newer_allocH w (.cells (lkC s f t) 115)
  have e2 := newer_allocH (w.alloc (.cells (lkC s f t) 115)) (.cells #[.func (.func 102) #[] #[]] 124)
  have e3 := newer_allocH ((w.alloc (.cells (lkC s f t) 115)).alloc (.cells #[.func (.func 102) #[] #[]] 124)) (.cells #[.func (.func 103) #[] #[.pointer (some ⟨w.heap.size, 0, none⟩), .pointer (some ⟨w.heap.size + 1, 0, none⟩)]] 154)
  have a1 := Whole.made w 115 (lkC s f t)
  have a2 := Whole.made (w.alloc (.cells (lkC s f t) 115)) 124 #[.func (.func 102) #[] #[]]
  have a3 := Whole.made ((w.alloc (.cells (lkC s f t) 115)).alloc (.cells #[.func (.func 102) #[] #[]] 124)) 154 #[.func (.func 103) #[] #[.pointer (some ⟨w.heap.size, 0, none⟩), .pointer (some ⟨w.heap.size + 1, 0, none⟩)]]
  rw [World.size_alloc] at a2
  rw [World.size_alloc, World.size_alloc] at a3
  exact ⟨newer_trans (newer_trans e1 e2) e3, (a1.below e2 a1.lt).below e3 (by simp; omega), a2.below e3 a2.lt, a3⟩)
 have HAL : Hid (∀ W, newer w W -> Whole W w.heap.size 115 (lkC s f t) -> Whole W (w.heap.size + 1) 124 #[.func (.func 102) #[] #[]] -> Whole W (w.heap.size + 1 + 1) 154 #[.func (.func 103) #[] #[.pointer (some ⟨w.heap.size, 0, none⟩), .pointer (some ⟨w.heap.size + 1, 0, none⟩)]] -> Calls Try.prog 105 #[.slice A ts.length c, .func (.func 106) #[] #[.pointer (some ⟨w.heap.size, 0, none⟩), .pointer (some ⟨w.heap.size + 1 + 1, 0, none⟩)]] W fun e w' => e = .returned (.bool (ts.all fun r => shR s.sd.n s.cs.length r.d)) /\ newer W w') := Lib.hid (fun W hW g1 g2 g3 => allRw_any ts (fun r => shR s.sd.n s.cs.length r.d) c A W w.heap.size (w.heap.size + 1 + 1) few.rows ((ht.next hW).rows) (fun r hr W' hW' => rwShape_any s f t r w.heap.size (w.heap.size + 1 + 1) (w.heap.size + 1) W' ((hok.next hW).next hW') hs (g1.below hW' g1.lt) (g2.below hW' g2.lt) (g3.below hW' g3.lt) (((ht.next hW).next hW').lss r hr) (((ht.next hW).next hW').nums r hr) (few.lss r hr) (few.nums r hr)))
 obtain ⟨w1, hw1⟩ : ∃ x, x = (((w.alloc (.cells (lkC s f t) 115)).alloc (.cells #[.func (.func 102) #[] #[]] 124)).alloc (.cells #[.func (.func 103) #[] #[.pointer (some ⟨w.heap.size, 0, none⟩), .pointer (some ⟨w.heap.size + 1, 0, none⟩)]] 154)) := ⟨_, rfl⟩
 rw [<- hw1] at HF
 have x1 := HF.out.2.1.at 1 (v := vi s.least) rfl
 rw [hw1] at x1
 unfold shT
 rw [List.length_map, List.all_map, show (shR s.sd.n s.cs.length ∘ Rw.d) = fun r : Rw => shR s.sd.n s.cs.length r.d from rfl]
 obtain ⟨q, hq⟩ : ∃ q, q = ts.all (fun r => shR s.sd.n s.cs.length r.d) := ⟨_, rfl⟩
 rw [<- hq] at HAL ⊢
 have HW := Lib.hid hw1
 clear hok hs ht few hq hw1
 by_cases he : (ts.length : Int) = s.least
 ·have h1 : ((ts.length : Int) == s.least) = true := by rw [he]; simp
  have HE := Lib.hid (decide_eq_true he)
  clear he
  go_enter Try.func85, Try.ntmps85
  go_wp2_with fail
  rw [<- HW.out]
  refine (HAL.out _ HF.out.1 HF.out.2.1 HF.out.2.2.1 HF.out.2.2.2).mono ?_
  rintro e w2 ⟨rfl, hb⟩
  have HN2 := Lib.hid (newer_trans HF.out.1 hb)
  clear hb x1
  go_wp2_with fail
  go_ret
  exact ⟨by rw [HE.out] <;> rfl, HN2.out⟩
 ·have h1 : ((ts.length : Int) == s.least) = false := by rw [beq_eq_false_iff_ne]; exact he
  have HE := Lib.hid (decide_eq_false he)
  clear he
  go_enter Try.func85, Try.ntmps85
  go_wp2_with fail
  go_ret
  rw [<- HW.out]
  exact ⟨by rw [HE.out] <;> rfl, HF.out.1⟩
end

end Go.Proofs.Ytkenokpobbichaa
