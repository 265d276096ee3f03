/- A project for the program: the same, in new memory. -/
import Derived.Test.YtpnpnfjhjjdmgaaZ
namespace Go.Proofs.Ytpnpnfjhjjdmgaa
open Go.RowKit Go.Deep

theorem Try.info4 : (Try.prog.info? 4).map (fun i => (i.zero, i.size, i.bytes)) = some (some (.bool false), 1, 1) := by kernel_rfl
theorem Try.info38 : (Try.prog.info? 38).map (fun i => (i.zero, i.size, i.bytes)) = some (some (.agg #[vi 0, vi 0]), 2, 16) := by kernel_rfl
theorem Try.info87 : (Try.prog.info? 87).map (fun i => (i.zero, i.size, i.bytes)) = some (some (.agg #[vi 0, vi 0, vi 0, vi 0, vi 0, .slice none 0 0]), 6, 64) := by kernel_rfl
theorem Try.info89 : (Try.prog.info? 89).map (fun i => (i.zero, i.size, i.bytes)) = some (some (.agg #[vi 0, vi 0, vi 0]), 3, 24) := by kernel_rfl
/-- append of a list, perhaps empty, onto an empty row of one's own. -/
theorem wp_append_owncopy {α : Type} {enc : α → List Value} {size : Nat} {P : Program} {w : World} {o : Oper} {a : Act} {K : Act → World → Prop} {Q : Exit → Act → World → Prop} (base : Nat) (s x : Operand) (t e : TypeId) (i0 : TypeInfo) (z : Value) (bytes : Nat)
    (ht : P.underlying t = some (.slice e)) (hi0 : P.info? e = some i0) (hz0 : i0.zero = some z) (hz1 : i0.size = size) (hz2 : i0.bytes = bytes) (hzs : z.cells.size = size) (hs0 : 0 < size) (hby : bytes ≤ 1000) (he : ∀ x, (enc x).length = size)
    (ho : o.op = .call { callee := .builtin .append, args := #[s, x], argTypes := #[t, t] }) (nb : Nat) (hs : a.eval s = .slice (some ⟨nb, 0, none⟩) 0 0) (hnb : base ≤ nb) (hwn : Whole w nb e #[])
    (l : List α) (A : Option Addr) (cp : Nat) (hx : a.eval x = .slice A l.length cp) (hl : l.length ≤ 1000) (hr : Row enc size w w.heap.size A l) (hbase : base ≤ w.heap.size)
    (h : ∀ B c w', w'.ownsRow base e size (.slice B l.length c) l.length (l.flatMap enc) → Below w.heap.size w w' → l.length ≤ c → K (a.put o.dst (.slice B l.length c)) w') : Oper.wp P o a w K Q := by
  rcases Nat.eq_zero_or_pos l.length with h0 | hpos
  · obtain rfl : l = [] := List.eq_nil_of_length_eq_zero h0
    have hrun : (Builtin.append_ #[t, t] o.type #[.slice (some ⟨nb, 0, none⟩) 0 0, .slice A 0 cp]).run P w = .ok (.slice (some ⟨nb, 0, none⟩) 0 0) w := by
      have hu := run_underlying (P := P) (w := w) ht
      rcases A with _ | ad <;> simp [Builtin.append_, hu, sizeOf, typeInfo, hi0, Builtin.lenOf, Builtin.firstCells, loadCells, loadCellsFrom, storeCells]
    unfold Oper.wp
    simp [execOp, ho, resolve, invoke, builtin, hs, hx, hrun, Result.andThen]
    exact h _ _ w ⟨by simp, .inr ⟨nb, 0, #[], rfl, hnb, hwn, Nat.le_refl _, by unfold maxLen; omega, by simp, by simp⟩⟩ (Below.refl _ _) (Nat.le_refl _)
  · obtain ⟨b, off, rfl, hb, hc⟩ := hr (by intro e; rw [e] at hpos; simp at hpos)
    refine wp_append_new s x t ho e i0 z size bytes ht hi0 hz0 hz1 hz2 hzs hs0 ⟨nb, 0, none⟩ hs ⟨b, off, none⟩ l.length cp (l.flatMap enc) hx (by rw [flat_len (enc := enc) (s := size) he]) (row_news (enc := enc) (s := size) hs0 he hr) hpos (by unfold maxLen; omega) (by have := Nat.mul_le_mul hl hby; omega) ?_
    intro gg cap w' hown hbl
    exact h _ _ w' (own_more hown hbase) hbl (own_room hown).1
def vOwn {α : Type} (B : Nat) (e : TypeId) (size : Nat) (enc : α → List Value) (l : List α) (v : Value) (W : World) : Prop := ∃ A c, v = .slice A l.length c ∧ W.ownsRow B e size (.slice A l.length c) l.length (l.flatMap enc)
theorem vOwn_st {α : Type} {B : Nat} {e : TypeId} {size : Nat} {enc : α → List Value} {l : List α} : ∀ v W W', vOwn B e size enc l v W → newer W W' → vOwn B e size enc l v W' := fun _ _ _ ⟨A, c, h1, h2⟩ hb => ⟨A, c, h1, own_below h2 hb⟩
def vEmpT (B : Nat) (t : TypeId) (v : Value) (W : World) : Prop := ∃ nb, v = .slice (some ⟨nb, 0, none⟩) 0 0 ∧ B ≤ nb ∧ Whole W nb t #[]
theorem vEmpT_st {B : Nat} {t : TypeId} : ∀ v W W', vEmpT B t v W → newer W W' → vEmpT B t v W' := fun _ _ _ ⟨nb, h1, h2, h3⟩ hb => ⟨nb, h1, h2, h3.below hb h3.lt⟩
/-- A project as it is first made. -/
def vBld (B : Nat) (p : Pm) (v : Value) (W : World) : Prop := ∃ V vc Q qc, v = .agg #[vi p.years, vi p.slopes, .slice none 0 0, .slice none 0 0, .slice V p.vs.length vc, .slice Q p.ps.length qc] ∧ W.ownsRow B 4 1 (.slice V p.vs.length vc) p.vs.length (p.vs.flatMap boL) ∧ W.ownsRow B 3 1 (.slice Q p.ps.length qc) p.ps.length (p.ps.flatMap intL)
theorem vBld_st {B : Nat} {p : Pm} : ∀ v W W', vBld B p v W → newer W W' → vBld B p v W' := fun _ _ _ ⟨V, vc, Q, qc, h1, h2, h3⟩ hb => ⟨V, vc, Q, qc, h1, own_below h2 hb, own_below h3 hb⟩
set_option maxRecDepth 100000 in
set_option maxHeartbeats 1000000 in
theorem lawListO (l : List Int) (A : Option Addr) (cp : Nat) (w : World) (hl : l.length ≤ 1000) (hr : Row intL 1 w w.heap.size A l) : Calls Try.prog 21 #[.slice A l.length cp] w fun e w' => (∃ A' c, e = .returned (.slice A' l.length c) ∧ w'.ownsRow w.heap.size 3 1 (.slice A' l.length c) l.length (l.flatMap intL)) ∧ newer w w' := by
  have HR := Lib.hid (row_alloc hr (.cells #[] 3))
  obtain ⟨i0, hi0, hz0, hz1, hz2⟩ := info_parts Try.info3w
  have HI := Lib.hid (And.intro hi0 (And.intro hz0 (And.intro hz1 hz2)))
  clear hr hi0 hz0 hz1 hz2
  go_enter Try.func21, Try.ntmps21
  go_wp2_with (at_builtin; go_loud ((refine wpList_plain rfl fun K hK => wp_append_owncopy (enc := intL) (size := 1) w.heap.size (.tmp 3) (.tmp 4) 25 3 i0 (.int .i64 0) 8 Try.underlying25 HI.out.1 HI.out.2.1 HI.out.2.2.1 HI.out.2.2.2 rfl (by omega) (by omega) (fun _ => rfl) rfl w.heap.size rfl (Nat.le_refl _) (Whole.made _ _ _) l A cp rfl hl HR.out (by simp) fun B c w' hB hb hc => hK _ _ ?_); have HB := Lib.hid (And.intro hB ((((Below.refl w.heap.size w).alloc (Nat.le_refl _) (.cells #[] 3))).trans (hb.mono (by simp)))); clear hB hb hc))
  go_ret
  exact ⟨⟨_, _, rfl, HB.out.1⟩, HB.out.2⟩
/-- A project that is being made. -/
structure PrA (p : Pm) (w : World) (ob : Nat) (V : Option Addr) (vc : Nat) (Q : Option Addr) (qc : Nat) (sv : Value) (xs : List Wk) (nv : Value) (ns : List Nd) (W : World) : Prop where
  nw : newer w W
  b0 : Whole W w.heap.size 27 (pmC p)
  b1 : Whole W (w.heap.size + 1) 35 #[vi 0, vi 0, .slice none 0 0, .slice none 0 0, .slice none 0 0, .slice none 0 0]
  oz : Whole W ob 35 #[vi p.years, vi p.slopes, sv, nv, .slice V p.vs.length vc, .slice Q p.ps.length qc]
  lo : w.heap.size + 1 < ob
  ws : W.ownsRow w.heap.size 87 6 sv xs.length (xs.flatMap wkL)
  ad : ∀ x ∈ xs, W.ownsRow w.heap.size 38 2 (.slice x.a x.d.adds.length x.cp) x.d.adds.length (x.d.adds.flatMap rgL)
  ns : W.ownsRow w.heap.size 89 3 nv ns.length (ns.flatMap ndL)
  vs : W.ownsRow w.heap.size 4 1 (.slice V p.vs.length vc) p.vs.length (p.vs.flatMap boL)
  ps : W.ownsRow w.heap.size 3 1 (.slice Q p.ps.length qc) p.ps.length (p.ps.flatMap intL)
section
variable {p : Pm} {w W W' : World} {ob : Nat} {V Q : Option Addr} {vc qc : Nat} {sv nv : Value} {xs : List Wk} {ns : List Nd}
theorem PrA.next (h : PrA p w ob V vc Q qc sv xs nv ns W) (hb : newer W W') : PrA p w ob V vc Q qc sv xs nv ns W' :=
  ⟨newer_trans h.nw hb, h.b0.below hb h.b0.lt, h.b1.below hb h.b1.lt, h.oz.below hb h.oz.lt, h.lo, own_below h.ws hb, fun x hx => own_below (h.ad x hx) hb, own_below h.ns hb, own_below h.vs hb, own_below h.ps hb⟩
theorem own_apart {w : World} {base base' : Nat} {e e' : TypeId} {size size' n n' : Nat} {v v' : Value} {xs xs' : List Value} (h : w.ownsRow base e size v n xs) (h' : w.ownsRow base' e' size' v' n' xs') (hne : e ≠ e') : v.ownBlock = none ∨ v.ownBlock ≠ v'.ownBlock := by
  rcases Option.eq_none_or_eq_some v.ownBlock with h0 | ⟨q, h0⟩
  · exact .inl h0
  · exact .inr fun h2 => own_own_ne h h' hne q h0 (h2 ▸ h0)
/-- A work more. -/
theorem PrA.addW (h : PrA p w ob V vc Q qc sv xs nv ns W) (hg : W.grownBy W' sv.ownBlock) {sv' : Value} {x : Wk} (ho : W'.ownsRow w.heap.size 87 6 sv' (xs.length + 1) (xs.flatMap wkL ++ wkL x)) (ha : W.ownsRow w.heap.size 38 2 (.slice x.a x.d.adds.length x.cp) x.d.adds.length (x.d.adds.flatMap rgL)) :
    PrA p w ob V vc Q qc sv' (xs ++ [x]) nv ns (W'.setCell ⟨ob, 2, none⟩ sv') := by
  have o1 : Whole W' ob 35 _ := h.oz.grown hg (own_ne h.ws h.oz (by decide)).symm
  have far : ∀ {e : TypeId} {s n : Nat} {v : Value} {ys : List Value}, W.ownsRow w.heap.size e s v n ys → e ≠ 87 → e ≠ 35 → (W'.setCell ⟨ob, 2, none⟩ sv').ownsRow w.heap.size e s v n ys := fun hv h1 h2 => by
    have h3 := hv.kept hg (own_apart hv h.ws h1)
    exact own_set h3 (own_ne h3 o1 h2) _
  have hs := h.nw.size
  refine ⟨?_, (h.b0.grown hg (own_ne h.ws h.b0 (by decide)).symm).far (p := ⟨ob, 2, none⟩) (by have := h.lo; dsimp only; omega) _, (h.b1.grown hg (own_ne h.ws h.b1 (by decide)).symm).far (p := ⟨ob, 2, none⟩) (by have := h.lo; dsimp only; omega) _, o1.set 2 sv', h.lo, ?_, ?_, far h.ns (by decide) (by decide), far h.vs (by decide) (by decide), far h.ps (by decide) (by decide)⟩
  · exact (h.nw.grown hg hs (own_ge h.ws)).setCell (p := ⟨ob, 2, none⟩) (by have := h.lo; dsimp only; omega) _
  · have e1 : (xs ++ [x]).flatMap wkL = xs.flatMap wkL ++ wkL x := by simp
    rw [List.length_append, e1]
    exact own_set ho (own_ne ho o1 (by decide)) _
  · intro y hy
    rcases List.mem_append.1 hy with hy | hy
    · exact far (h.ad y hy) (by decide) (by decide)
    · obtain rfl := List.mem_singleton.1 hy
      exact far ha (by decide) (by decide)
/-- A need more. -/
theorem PrA.addN (h : PrA p w ob V vc Q qc sv xs nv ns W) (hg : W.grownBy W' nv.ownBlock) {nv' : Value} {n : Nd} (ho : W'.ownsRow w.heap.size 89 3 nv' (ns.length + 1) (ns.flatMap ndL ++ ndL n)) :
    PrA p w ob V vc Q qc sv xs nv' (ns ++ [n]) (W'.setCell ⟨ob, 3, none⟩ nv') := by
  have o1 : Whole W' ob 35 _ := h.oz.grown hg (own_ne h.ns h.oz (by decide)).symm
  have far : ∀ {e : TypeId} {s n : Nat} {v : Value} {ys : List Value}, W.ownsRow w.heap.size e s v n ys → e ≠ 89 → e ≠ 35 → (W'.setCell ⟨ob, 3, none⟩ nv').ownsRow w.heap.size e s v n ys := fun hv h1 h2 => by
    have h3 := hv.kept hg (own_apart hv h.ns h1)
    exact own_set h3 (own_ne h3 o1 h2) _
  have hs := h.nw.size
  refine ⟨?_, (h.b0.grown hg (own_ne h.ns h.b0 (by decide)).symm).far (p := ⟨ob, 3, none⟩) (by have := h.lo; dsimp only; omega) _, (h.b1.grown hg (own_ne h.ns h.b1 (by decide)).symm).far (p := ⟨ob, 3, none⟩) (by have := h.lo; dsimp only; omega) _, o1.set 3 nv', h.lo, far h.ws (by decide) (by decide), fun y hy => far (h.ad y hy) (by decide) (by decide), ?_, far h.vs (by decide) (by decide), far h.ps (by decide) (by decide)⟩
  · exact (h.nw.grown hg hs (own_ge h.ns)).setCell (p := ⟨ob, 3, none⟩) (by have := h.lo; dsimp only; omega) _
  · have e1 : (ns ++ [n]).flatMap ndL = ns.flatMap ndL ++ ndL n := by simp
    rw [List.length_append, e1]
    exact own_set ho (own_ne ho o1 (by decide)) _
end
theorem own_put6 {W : World} {ob : Nat} {cs : Array Value} {base : Nat} {e : TypeId} {s n : Nat} {v : Value} {xs : List Value} (hw : Whole W ob 35 cs) (ho : W.ownsRow base e s v n xs) (hne : e ≠ 35) (u0 u1 u2 u3 u4 u5 : Value) :
    ((((((W.setCell ⟨ob, 0, none⟩ u0).setCell ⟨ob, 1, none⟩ u1).setCell ⟨ob, 2, none⟩ u2).setCell ⟨ob, 3, none⟩ u3).setCell ⟨ob, 4, none⟩ u4).setCell ⟨ob, 5, none⟩ u5).ownsRow base e s v n xs := by
  have h0 := own_set (i := 0) ho (own_ne ho hw hne) u0
  have w0 := hw.set 0 u0
  have h1 := own_set (i := 1) h0 (own_ne h0 w0 hne) u1
  have w1 := w0.set 1 u1
  have h2 := own_set (i := 2) h1 (own_ne h1 w1 hne) u2
  have w2 := w1.set 2 u2
  have h3 := own_set (i := 3) h2 (own_ne h2 w2 hne) u3
  have w3 := w2.set 3 u3
  have h4 := own_set (i := 4) h3 (own_ne h3 w3 hne) u4
  have w4 := w3.set 4 u4
  exact own_set (i := 5) h4 (own_ne h4 w4 hne) u5
set_option maxRecDepth 100000 in
set_option maxHeartbeats 4000000 in
theorem lawProject (p : Pm) (w : World) (hok : PmOk p w) (few : PmFew p) :
    Calls Try.prog 19 #[pmV p] w fun e w' => (∃ p' : Pm, e = .returned (pmV p') ∧ p'.pj = p.pj ∧ PmOk p' w' ∧ p'.ps.length ≤ p'.pc) ∧ newer w w' := by
  have hb1 := newer_trans (newer_allocH w (.cells (pmC p) 27)) (newer_allocH (w.alloc (.cells (pmC p) 27)) (.cells #[vi 0, vi 0, .slice none 0 0, .slice none 0 0, .slice none 0 0, .slice none 0 0] 35))
  have m0 := (Whole.made w 27 (pmC p)).alloc (.cells #[vi 0, vi 0, .slice none 0 0, .slice none 0 0, .slice none 0 0, .slice none 0 0] 35)
  have m1 := Whole.made (w.alloc (.cells (pmC p) 27)) 35 #[vi 0, vi 0, .slice none 0 0, .slice none 0 0, .slice none 0 0, .slice none 0 0]
  simp only [World.size_alloc] at m1
  have H0 := Lib.hid (And.intro hb1 (And.intro m0 m1))
  have HOK := Lib.hid hok
  have HF := Lib.hid few
  have fw := few.ws
  have fn := few.ns
  obtain ⟨i4, hi0, hz0, hz1, hz2⟩ := info_parts Try.info4
  have HI4 := Lib.hid (And.intro hi0 (And.intro hz0 (And.intro hz1 hz2)))
  clear hi0 hz0 hz1 hz2
  obtain ⟨i38, hi0, hz0, hz1, hz2⟩ := info_parts Try.info38
  have HI38 := Lib.hid (And.intro hi0 (And.intro hz0 (And.intro hz1 hz2)))
  clear hi0 hz0 hz1 hz2
  obtain ⟨i87, hi0, hz0, hz1, hz2⟩ := info_parts Try.info87
  have HI87 := Lib.hid (And.intro hi0 (And.intro hz0 (And.intro hz1 hz2)))
  clear hi0 hz0 hz1 hz2
  obtain ⟨i89, hi0, hz0, hz1, hz2⟩ := info_parts Try.info89
  have HI89 := Lib.hid (And.intro hi0 (And.intro hz0 (And.intro hz1 hz2)))
  clear hi0 hz0 hz1 hz2 hb1 m0 m1 hok few
  go_enter Try.func19, Try.ntmps19
  go_upto_region 1 with fail
  refine genQ (fun X => newer w X ∧ Whole X w.heap.size 27 (pmC p) ∧ Whole X (w.heap.size + 1) 35 #[vi 0, vi 0, .slice none 0 0, .slice none 0 0, .slice none 0 0, .slice none 0 0]) H0.out ?_
  clear H0
  rintro w1 ⟨hn1, m0, m1⟩
  have x0 := m0.at 0 (v := vi p.years) rfl
  have x1 := m0.at 1 (v := vi p.slopes) rfl
  have x2 := m0.at 2 (v := .slice p.wa p.ws.length p.wc) rfl
  have x3 := m0.at 3 (v := .slice p.na p.ns.length p.nc) rfl
  have x4 := m0.at 4 (v := .slice p.va p.vs.length p.vc) rfl
  have x5 := m0.at 5 (v := .slice p.pa p.ps.length p.pc) rfl
  have HN1 := Lib.hid hn1
  have H1 := Lib.hid (And.intro m0 m1)
  clear hn1 m0 m1
  refine wp_words (by kernel_rfl) (region_told 13 (by kernel_rfl) (by kernel_rfl) (fun W => Below w1.heap.size w1 W) newer (pickD [vIs (.pointer (some ⟨w.heap.size, 0, none⟩)), vIs (vi p.years), vIs (.pointer (some ⟨w.heap.size, 1, none⟩)), vIs (vi p.slopes), vEmpT w1.heap.size 4, vIs (.pointer (some ⟨w.heap.size, 4, none⟩)), vIs (.slice p.va p.vs.length p.vc), vOwn w1.heap.size 4 1 (fun b => [Value.bool b]) p.vs, vIs (.pointer (some ⟨w.heap.size, 5, none⟩)), vIs (.slice p.pa p.ps.length p.pc), vOwn w1.heap.size 3 1 intL p.ps, vBld w1.heap.size p, vNew w1.heap.size 35 #[vi 0, vi 0, .slice none 0 0, .slice none 0 0, .slice none 0 0, .slice none 0 0]]) (fun h k => newer_trans h k) (pickD_stable _ ⟨vIs_st, vIs_st, vIs_st, vIs_st, vEmpT_st, vIs_st, vIs_st, vOwn_st, vIs_st, vIs_st, vOwn_st, vBld_st, vNew_st, trivial⟩) (Below.refl _ w1).drew (Below.refl _ _) ?_ ?_)
  · refine ⟨?_, ?_, ?_, ?_, ?_, ?_, ?_, ?_, ?_, ?_, ?_, ?_, ?_, trivial⟩
    · intro a W hG hR hO hp
      have h1 := hO.slot 1 (by kernel_rfl)
      refine wp_yields (v := .pointer (some ⟨w.heap.size, 0, none⟩)) ?_ ⟨_, rfl, rfl, Below.refl _ _, hG⟩
      simp [slotOf] at h1
      simp [execOp, go_sem, h1]
    · intro a W hG hR hO hp
      have h10 : slotOf a 10 = .pointer (some ⟨w.heap.size, 0, none⟩) := hp.1
      have c0 := keep_cell x0 hG
      refine wp_yields (v := vi p.years) ?_ ⟨_, rfl, rfl, Below.refl _ _, hG⟩
      simp [slotOf] at h10
      simp [execOp, go_sem, h10, c0]
    · intro a W hG hR hO hp
      have h1 := hO.slot 1 (by kernel_rfl)
      refine wp_yields (v := .pointer (some ⟨w.heap.size, 1, none⟩)) ?_ ⟨_, rfl, rfl, Below.refl _ _, hG⟩
      simp [slotOf] at h1
      simp [execOp, go_sem, h1]
    · intro a W hG hR hO hp
      have h12 : slotOf a 12 = .pointer (some ⟨w.heap.size, 1, none⟩) := hp.1
      have c0 := keep_cell x1 hG
      refine wp_yields (v := vi p.slopes) ?_ ⟨_, rfl, rfl, Below.refl _ _, hG⟩
      simp [slotOf] at h12
      simp [execOp, go_sem, h12, c0]
    · intro a W hG hR hO hp
      refine wp_makes (v := .slice (some ⟨W.heap.size, 0, none⟩) 0 0) (W' := W.alloc (.cells #[] 4)) ?_ ⟨_, rfl, ⟨_, rfl, hG.size, Whole.made _ _ _⟩, newer_allocH _ _, hG.alloc hG.size _⟩
      skip
      simp [execOp, go_sem]
    · intro a W hG hR hO hp
      have h1 := hO.slot 1 (by kernel_rfl)
      refine wp_yields (v := .pointer (some ⟨w.heap.size, 4, none⟩)) ?_ ⟨_, rfl, rfl, Below.refl _ _, hG⟩
      simp [slotOf] at h1
      simp [execOp, go_sem, h1]
    · intro a W hG hR hO hp
      have h15 : slotOf a 15 = .pointer (some ⟨w.heap.size, 4, none⟩) := hp.1
      have c0 := keep_cell x4 hG
      refine wp_yields (v := .slice p.va p.vs.length p.vc) ?_ ⟨_, rfl, rfl, Below.refl _ _, hG⟩
      simp [slotOf] at h15
      simp [execOp, go_sem, h15, c0]
    · intro a W hG hR hO hp
      have h14 := hp.1
      have h16 : slotOf a 16 = .slice p.va p.vs.length p.vc := hp.2.1
      obtain ⟨nb, h14, hnb, hW⟩ := h14
      obtain ⟨hi0, hz0, hz1, hz2⟩ := HI4.out
      refine wp_append_owncopy (enc := boL) (size := 1) w1.heap.size (.tmp 14) (.tmp 16) 24 4 i4 (.bool false) 1 Try.underlying24 hi0 hz0 hz1 hz2 rfl (by omega) (by omega) (fun _ => rfl) rfl nb ((eval_slot a 14).trans h14) hnb hW p.vs p.va p.vc ((eval_slot a 16).trans h16) HF.out.vs (HOK.out.next (newer_trans HN1.out hG)).vs hG.size ?_
      intro B c w' hown hb hlt
      exact ⟨_, rfl, ⟨B, c, rfl, hown⟩, hb, below_next hG hb⟩
    · intro a W hG hR hO hp
      have h1 := hO.slot 1 (by kernel_rfl)
      refine wp_yields (v := .pointer (some ⟨w.heap.size, 5, none⟩)) ?_ ⟨_, rfl, rfl, Below.refl _ _, hG⟩
      simp [slotOf] at h1
      simp [execOp, go_sem, h1]
    · intro a W hG hR hO hp
      have h18 : slotOf a 18 = .pointer (some ⟨w.heap.size, 5, none⟩) := hp.1
      have c0 := keep_cell x5 hG
      refine wp_yields (v := .slice p.pa p.ps.length p.pc) ?_ ⟨_, rfl, rfl, Below.refl _ _, hG⟩
      simp [slotOf] at h18
      simp [execOp, go_sem, h18, c0]
    · intro a W hG hR hO hp
      have h19 : slotOf a 19 = .slice p.pa p.ps.length p.pc := hp.1
      have h19 : slotOf a 19 = .slice p.pa p.ps.length p.pc := hp.1
      refine wp_enters (f := 21) (args := #[.slice p.pa p.ps.length p.pc]) ?_ ((lawListO p.ps p.pa p.pc W HF.out.ps (HOK.out.next (newer_trans HN1.out hG)).ps).mono ?_)
      · simp [slotOf] at h19
        simp [go_sem, h19]
      · rintro e w' ⟨⟨A, c, rfl, h1⟩, hb⟩
        exact ⟨_, rfl, _, rfl, ⟨A, c, rfl, own_more h1 hG.size⟩, hb, below_next hG hb⟩
    · intro a W hG hR hO hp
      have h11 : slotOf a 11 = vi p.years := hp.1
      have h13 : slotOf a 13 = vi p.slopes := hp.2.1
      have h17 := hp.2.2.1
      have h20 := hp.2.2.2.1
      have h11 : slotOf a 11 = vi p.years := hp.1
      have h13 : slotOf a 13 = vi p.slopes := hp.2.1
      obtain ⟨V2, vc2, h17, ho1⟩ := hp.2.2.1
      obtain ⟨Q2, qc2, h20, ho2⟩ := hp.2.2.2.1
      refine wp_yields (v := .agg #[vi p.years, vi p.slopes, .slice none 0 0, .slice none 0 0, .slice V2 p.vs.length vc2, .slice Q2 p.ps.length qc2]) ?_ ⟨_, rfl, ⟨V2, vc2, Q2, qc2, rfl, ho1, ho2⟩, Below.refl _ _, hG⟩
      simp [slotOf] at h11 h13 h17 h20
      simp [execOp, go_sem, h11, h13, h17, h20]
    · intro a W hG hR hO hp
      refine wp_makes (v := .pointer (some ⟨W.heap.size, 0, none⟩)) (W' := W.alloc (.cells #[vi 0, vi 0, .slice none 0 0, .slice none 0 0, .slice none 0 0, .slice none 0 0] 35)) ?_ ⟨_, rfl, ⟨_, rfl, hG.size, Whole.made _ _ _⟩, newer_allocH _ _, hG.alloc hG.size _⟩
      skip
      simp [execOp, go_sem]
  · intro W hG hR
    rintro _ rfl _ rfl _ rfl _ rfl _ hv14 _ rfl _ rfl _ ⟨V, vc, rfl, hvo⟩ _ rfl _ rfl _ ⟨Q, qc, rfl, hqo⟩ _ ⟨V2, vc2, Q2, qc2, rfl, hvo2, hqo2⟩ _ ⟨ob, rfl, hob, hwo⟩
    change wpList _ _ _ _ _ _
    simp only [Act.put, List.setIfInBounds_toArray, List.set_cons_zero, List.set_cons_succ, List.drop_succ_cons, List.drop_zero]
    have e0 := hwo.at 0 rfl
    have e1 := hwo.at 1 rfl
    have e2 := hwo.at 2 rfl
    have e3 := hwo.at 3 rfl
    have e4 := hwo.at 4 rfl
    have e5 := hwo.at 5 rfl
    have f0 := hwo.free 0
    have f1 := hwo.free 1
    have f2 := hwo.free 2
    have f3 := hwo.free 3
    have f4 := hwo.free 4
    have f5 := hwo.free 5
    have HW := Lib.hid (And.intro hG (And.intro hwo (And.intro hob (And.intro hvo2 hqo2))))
    clear hG hR hwo hob hvo hqo hvo2 hqo2 hv14 x0 x1 x2 x3 x4 x5
    go_wp2_with fail
    have HP0 : Hid (PrA p w ob V2 vc2 Q2 qc2 (.slice none 0 0) [] (.slice none 0 0) [] (((((((W).setCell ⟨ob, 0, none⟩ (vi p.years)).setCell ⟨ob, 1, none⟩ (vi p.slopes)).setCell ⟨ob, 2, none⟩ (.slice none 0 0)).setCell ⟨ob, 3, none⟩ (.slice none 0 0)).setCell ⟨ob, 4, none⟩ (.slice V2 p.vs.length vc2)).setCell ⟨ob, 5, none⟩ (.slice Q2 p.ps.length qc2))) := Lib.hid (by
      have hn : newer w1 (((((((W).setCell ⟨ob, 0, none⟩ (vi p.years)).setCell ⟨ob, 1, none⟩ (vi p.slopes)).setCell ⟨ob, 2, none⟩ (.slice none 0 0)).setCell ⟨ob, 3, none⟩ (.slice none 0 0)).setCell ⟨ob, 4, none⟩ (.slice V2 p.vs.length vc2)).setCell ⟨ob, 5, none⟩ (.slice Q2 p.ps.length qc2)) := ((((((HW.out.1).setCell (p := ⟨ob, 0, none⟩) HW.out.2.2.1 (vi p.years)).setCell (p := ⟨ob, 1, none⟩) HW.out.2.2.1 (vi p.slopes)).setCell (p := ⟨ob, 2, none⟩) HW.out.2.2.1 (.slice none 0 0)).setCell (p := ⟨ob, 3, none⟩) HW.out.2.2.1 (.slice none 0 0)).setCell (p := ⟨ob, 4, none⟩) HW.out.2.2.1 (.slice V2 p.vs.length vc2)).setCell (p := ⟨ob, 5, none⟩) HW.out.2.2.1 (.slice Q2 p.ps.length qc2)
      refine ⟨newer_trans HN1.out hn, H1.out.1.below hn H1.out.1.lt, H1.out.2.below hn H1.out.2.lt, ((((((HW.out.2.1).set 0 (vi p.years)).set 1 (vi p.slopes)).set 2 (.slice none 0 0)).set 3 (.slice none 0 0)).set 4 (.slice V2 p.vs.length vc2)).set 5 (.slice Q2 p.ps.length qc2), ?_, ⟨by simp, .inl ⟨rfl, rfl⟩⟩, fun x hx => by simp at hx, ⟨by simp, .inl ⟨rfl, rfl⟩⟩, ?_, ?_⟩
      · have := H1.out.2.lt
        have := HW.out.2.2.1
        omega
      · exact own_put6 HW.out.2.1 (own_more HW.out.2.2.2.1 HN1.out.size) (by decide) _ _ _ _ _ _
      · exact own_put6 HW.out.2.1 (own_more HW.out.2.2.2.2 HN1.out.size) (by decide) _ _ _ _ _ _)
    clear HW H1 HN1 e0 e1 e2 e3 e4 e5 f0 f1 f2 f3 f4 f5
    go_loopw [4] (fun s4 wr => ∃ (k : Nat) (sv : Value) (xs : List Wk), k ≤ p.ws.length ∧ s4 = .int .i64 k ∧ xs.map (·.d) = (p.ws.take k).map (·.d) ∧ PrA p w ob V2 vc2 Q2 qc2 sv xs (.slice none 0 0) [] wr) (fun s4 _ => p.ws.length - (intOf s4).toNat)
    case atStart => exact ⟨0, _, [], Nat.zero_le _, rfl, by simp, HP0.out⟩
    case round =>
      obtain ⟨k, sv, xs, hk, rfl, hxs, hpa⟩ := hrel
      clear HP0
      obtain ⟨wo, hwo⟩ : ∃ wo : World, wo = wr := ⟨_, rfl⟩
      rw [← hwo] at hpa ⊢
      clear hwo wr
      have HPA := Lib.hid hpa
      have HXS := Lib.hid hxs
      have x2 := hpa.b0.at 2 (v := .slice p.wa p.ws.length p.wc) rfl
      clear hpa hxs
      by_cases hlt : k < p.ws.length
      · have hkn : (k : Int) < p.ws.length := by omega
        obtain ⟨x, hx⟩ := get_of_lt hlt
        obtain ⟨b2, o2, e2, _, d0, d1, d2, d3, d4, d5⟩ := row6 (HOK.out.next HPA.out.nw).ws hx
        rw [e2] at x2
        have HX := Lib.hid hx
        have hal := HF.out.ad x (List.mem_of_getElem? hx)
        clear hx e2
        go_upto_region 6 with fail
        refine genQ (fun X => newer wo X ∧ Whole X wo.heap.size 63 (wkC x)) ⟨newer_allocH _ _, Whole.made _ _ _⟩ ?_
        obtain ⟨rb, hrb⟩ : ∃ rb, rb = wo.heap.size := ⟨_, rfl⟩
        rw [← hrb]
        clear hrb d0 d1 d2 d3 d4 d5 x2
        rintro w2 ⟨hn2, hwx⟩
        have y0 := hwx.at 0 (v := vi x.d.price) rfl
        have y1 := hwx.at 1 (v := vi x.d.first) rfl
        have y2 := hwx.at 2 (v := vi x.d.last) rfl
        have y3 := hwx.at 3 (v := vi x.d.age) rfl
        have y4 := hwx.at 4 (v := vi x.d.village) rfl
        have HB2 := Lib.hid (And.intro hn2 hwx)
        clear hn2 hwx
        go_upto_region 7 with fail
        refine genQ (fun X => newer w2 X ∧ Whole X w2.heap.size 87 #[vi x.d.price, vi x.d.first, vi x.d.last, vi x.d.age, vi x.d.village, .slice none 0 0]) ⟨newer_allocH _ _, Whole.made _ _ _⟩ ?_
        obtain ⟨xb, hxb⟩ : ∃ xb, xb = w2.heap.size := ⟨_, rfl⟩
        rw [← hxb]
        clear y0 y1 y2 y3 y4
        rintro w3 ⟨hn3, hwx⟩
        have HB3 := Lib.hid (And.intro (newer_trans HB2.out.1 hn3) (And.intro (HB2.out.2.below hn3 HB2.out.2.lt) hwx))
        have hxbo : wo.heap.size ≤ xb := by rw [hxb]; exact HB2.out.1.size
        have HXBO := Lib.hid (And.intro hxbo (show rb < xb by rw [hxb]; exact HB2.out.2.lt))
        clear hn3 hwx hxb HB2 hxbo
        go_wp2_with fail
        go_loopw [7] (fun s7 wr => ∃ (j : Nat) (s : Value), j ≤ x.d.adds.length ∧ s7 = .int .i64 j ∧ newer wo wr ∧ Whole wr rb 63 (wkC x) ∧ Whole wr xb 87 #[vi x.d.price, vi x.d.first, vi x.d.last, vi x.d.age, vi x.d.village, s] ∧ wr.ownsRow wo.heap.size 38 2 s j ((x.d.adds.take j).flatMap rgL)) (fun s7 _ => x.d.adds.length - (intOf s7).toNat)
        case atStart => exact ⟨0, _, Nat.zero_le _, rfl, HB3.out.1, HB3.out.2.1, HB3.out.2.2, by simp, .inl ⟨rfl, rfl⟩⟩
        case round =>
          obtain ⟨j, s, hj, rfl, hbw, hrw, hxw, hown⟩ := hrel
          clear HB3
          obtain ⟨sA, sc, rfl⟩ := own_form hown
          have HB := Lib.hid (And.intro hbw (And.intro hrw (And.intro hxw hown)))
          have d5 := hrw.at 5 (v := .slice x.a x.d.adds.length x.cp) rfl
          have e5 := hxw.at 5 (v := .slice sA j sc) rfl
          by_cases hlt2 : j < x.d.adds.length
          · have hjn : (j : Int) < x.d.adds.length := by omega
            obtain ⟨r, hr⟩ := get_of_lt hlt2
            obtain ⟨b3, o3, e3, _, c0, c1⟩ := row2 ((HOK.out.next (newer_trans HPA.out.nw hbw)).ad x (List.mem_of_getElem? HX.out)) hr
            rw [e3] at d5
            have HRG := Lib.hid hr
            clear hbw hrw hxw hown hr e3
            go_upto_region 10 with fail
            refine wp_words (by kernel_rfl) (region_told 16 (by kernel_rfl) (by kernel_rfl) (fun W => Below wr.heap.size wr W) newer (pickD [vIs (.pointer (some ⟨xb, 5, none⟩)), vIs (.slice sA j sc), vIs (.pointer (some ⟨rb, 5, none⟩)), vIs (.slice (some ⟨b3, o3, none⟩) x.d.adds.length x.cp), vIs (.int .i64 j), vIs (.pointer (some ⟨b3, o3 + j * 2, none⟩)), vIs (.pointer (some ⟨b3, o3 + j * 2, none⟩)), vIs (vi r.lo), vIs (.pointer (some ⟨rb, 5, none⟩)), vIs (.slice (some ⟨b3, o3, none⟩) x.d.adds.length x.cp), vIs (.int .i64 j), vIs (.pointer (some ⟨b3, o3 + j * 2, none⟩)), vIs (.pointer (some ⟨b3, o3 + j * 2 + 1, none⟩)), vIs (vi r.hi), vIs (rgV r), vOne wr.heap.size 38 #[vi r.lo, vi r.hi]]) (fun h k => newer_trans h k) (pickD_stable _ ⟨vIs_st, vIs_st, vIs_st, vIs_st, vIs_st, vIs_st, vIs_st, vIs_st, vIs_st, vIs_st, vIs_st, vIs_st, vIs_st, vIs_st, vIs_st, vOne_st, trivial⟩) (Below.refl _ wr).drew (Below.refl _ _) ?_ ?_)
            · refine ⟨?_, ?_, ?_, ?_, ?_, ?_, ?_, ?_, ?_, ?_, ?_, ?_, ?_, ?_, ?_, ?_, trivial⟩
              · intro a W hG hR hO hp
                have h6 := hO.slot 6 (by kernel_rfl)
                refine wp_yields (v := .pointer (some ⟨xb, 5, none⟩)) ?_ ⟨_, rfl, rfl, Below.refl _ _, hG⟩
                simp [slotOf] at h6
                simp [execOp, go_sem, h6]
              · intro a W hG hR hO hp
                have h52 : slotOf a 52 = .pointer (some ⟨xb, 5, none⟩) := hp.1
                have c0 := keep_cell e5 hG
                refine wp_yields (v := .slice sA j sc) ?_ ⟨_, rfl, rfl, Below.refl _ _, hG⟩
                simp [slotOf] at h52
                simp [execOp, go_sem, h52, c0]
              · intro a W hG hR hO hp
                have h5 := hO.slot 5 (by kernel_rfl)
                refine wp_yields (v := .pointer (some ⟨rb, 5, none⟩)) ?_ ⟨_, rfl, rfl, Below.refl _ _, hG⟩
                simp [slotOf] at h5
                simp [execOp, go_sem, h5]
              · intro a W hG hR hO hp
                have h54 : slotOf a 54 = .pointer (some ⟨rb, 5, none⟩) := hp.1
                have c0 := keep_cell d5 hG
                refine wp_yields (v := .slice (some ⟨b3, o3, none⟩) x.d.adds.length x.cp) ?_ ⟨_, rfl, rfl, Below.refl _ _, hG⟩
                simp [slotOf] at h54
                simp [execOp, go_sem, h54, c0]
              · intro a W hG hR hO hp
                have h7 := hO.slot 7 (by kernel_rfl)
                refine wp_yields (v := .int .i64 j) ?_ ⟨_, rfl, rfl, Below.refl _ _, hG⟩
                simp [slotOf] at h7
                simp [execOp, go_sem, h7]
              · intro a W hG hR hO hp
                have h55 : slotOf a 55 = .slice (some ⟨b3, o3, none⟩) x.d.adds.length x.cp := hp.1
                have h56 : slotOf a 56 = .int .i64 j := hp.2.1
                refine wp_yields (v := .pointer (some ⟨b3, o3 + j * 2, none⟩)) ?_ ⟨_, rfl, rfl, Below.refl _ _, hG⟩
                simp [slotOf] at h55 h56
                simp [execOp, go_sem, h55, h56, hjn]
              · intro a W hG hR hO hp
                have h57 : slotOf a 57 = .pointer (some ⟨b3, o3 + j * 2, none⟩) := hp.1
                refine wp_yields (v := .pointer (some ⟨b3, o3 + j * 2, none⟩)) ?_ ⟨_, rfl, rfl, Below.refl _ _, hG⟩
                simp [slotOf] at h57
                simp [execOp, go_sem, h57]
              · intro a W hG hR hO hp
                have h58 : slotOf a 58 = .pointer (some ⟨b3, o3 + j * 2, none⟩) := hp.1
                have c0 := keep_cell c0 hG
                refine wp_yields (v := vi r.lo) ?_ ⟨_, rfl, rfl, Below.refl _ _, hG⟩
                simp [slotOf] at h58
                simp [execOp, go_sem, h58, c0]
              · intro a W hG hR hO hp
                have h5 := hO.slot 5 (by kernel_rfl)
                refine wp_yields (v := .pointer (some ⟨rb, 5, none⟩)) ?_ ⟨_, rfl, rfl, Below.refl _ _, hG⟩
                simp [slotOf] at h5
                simp [execOp, go_sem, h5]
              · intro a W hG hR hO hp
                have h60 : slotOf a 60 = .pointer (some ⟨rb, 5, none⟩) := hp.1
                have c0 := keep_cell d5 hG
                refine wp_yields (v := .slice (some ⟨b3, o3, none⟩) x.d.adds.length x.cp) ?_ ⟨_, rfl, rfl, Below.refl _ _, hG⟩
                simp [slotOf] at h60
                simp [execOp, go_sem, h60, c0]
              · intro a W hG hR hO hp
                have h7 := hO.slot 7 (by kernel_rfl)
                refine wp_yields (v := .int .i64 j) ?_ ⟨_, rfl, rfl, Below.refl _ _, hG⟩
                simp [slotOf] at h7
                simp [execOp, go_sem, h7]
              · intro a W hG hR hO hp
                have h61 : slotOf a 61 = .slice (some ⟨b3, o3, none⟩) x.d.adds.length x.cp := hp.1
                have h62 : slotOf a 62 = .int .i64 j := hp.2.1
                refine wp_yields (v := .pointer (some ⟨b3, o3 + j * 2, none⟩)) ?_ ⟨_, rfl, rfl, Below.refl _ _, hG⟩
                simp [slotOf] at h61 h62
                simp [execOp, go_sem, h61, h62, hjn]
              · intro a W hG hR hO hp
                have h63 : slotOf a 63 = .pointer (some ⟨b3, o3 + j * 2, none⟩) := hp.1
                refine wp_yields (v := .pointer (some ⟨b3, o3 + j * 2 + 1, none⟩)) ?_ ⟨_, rfl, rfl, Below.refl _ _, hG⟩
                simp [slotOf] at h63
                simp [execOp, go_sem, h63]
              · intro a W hG hR hO hp
                have h64 : slotOf a 64 = .pointer (some ⟨b3, o3 + j * 2 + 1, none⟩) := hp.1
                have c0 := keep_cell c1 hG
                refine wp_yields (v := vi r.hi) ?_ ⟨_, rfl, rfl, Below.refl _ _, hG⟩
                simp [slotOf] at h64
                simp [execOp, go_sem, h64, c0]
              · intro a W hG hR hO hp
                have h59 : slotOf a 59 = vi r.lo := hp.1
                have h65 : slotOf a 65 = vi r.hi := hp.2.1
                refine wp_yields (v := rgV r) ?_ ⟨_, rfl, rfl, Below.refl _ _, hG⟩
                simp [slotOf] at h59 h65
                simp [execOp, go_sem, h59, h65]
              · intro a W hG hR hO hp
                have h66 : slotOf a 66 = rgV r := hp.1
                have h66 : slotOf a 66 = rgV r := hp.1
                refine wp_makes (v := .slice (some ⟨W.heap.size, 0, none⟩) 1 1) (W' := W.alloc (.cells #[vi r.lo, vi r.hi] 38)) ?_ ⟨_, rfl, ⟨_, rfl, hG.size, Whole.made _ _ _⟩, newer_allocH _ _, hG.alloc hG.size _⟩
                simp [slotOf] at h66
                simp [execOp, go_sem, h66]
            · intro W hG hR
              rintro _ rfl _ rfl _ rfl _ rfl _ rfl _ rfl _ rfl _ rfl _ rfl _ rfl _ rfl _ rfl _ rfl _ rfl _ rfl _ ⟨nb, rfl, hnb, hWn⟩
              change wpList _ _ _ _ _ _
              simp only [Act.put, List.setIfInBounds_toArray, List.set_cons_zero, List.set_cons_succ, List.drop_succ_cons, List.drop_zero]
              have HO2 := Lib.hid (own_below HB.out.2.2.2 hG)
              have HNW := Lib.hid (World.news_of_block hWn)
              have HB4 := Lib.hid (And.intro (newer_trans HB.out.1 hG) (And.intro (HB.out.2.1.below hG HB.out.2.1.lt) (HB.out.2.2.1.below hG HB.out.2.2.1.lt)))
              have hbz := HB4.out.1.size
              have HTK := Lib.hid (take_flat rgL x.d.adds j r HRG.out)
              obtain ⟨hi0, hz0, hz1, hz2⟩ := HI38.out
              clear hG hR hnb hWn c0 c1 d5 e5 HB
              refine wpList_append_lies _ rfl (.tmp 53) (.tmp 67) 85 rfl wo.heap.size 38 i38 (.agg #[vi 0, vi 0]) 2 16 Try.underlying85 hi0 hz0 hz1 hz2 rfl (by omega) _ j _ rfl HO2.out ⟨nb, 0, none⟩ 1 1 [vi r.lo, vi r.hi] rfl rfl HNW.out (by simp [Value.oneCell']) (by omega) (by unfold maxLen; omega) (by omega) hbz W.heap.size rfl ?_
              intro gg cp2 w5 hown2 hgrow2 hat2 hlt2'
              have hxw5 := HB4.out.2.2.grown hgrow2 (own_ne HO2.out HB4.out.2.2 (by decide)).symm
              have HB5 := Lib.hid (And.intro (HB4.out.1.grown hgrow2 hbz (own_ge HO2.out)) (And.intro (HB4.out.2.1.grown hgrow2 (own_ne HO2.out HB4.out.2.1 (by decide)).symm) (And.intro hxw5 hown2)))
              have e5 := hxw5.at 5 (v := .slice sA j sc) rfl
              have f5 := hxw5.free 5
              clear hown2 hgrow2 hat2 hlt2' hi0 hz0 hz1 hz2 HO2 HNW HB4 hxw5 hbz
              simp only [Act.put, List.setIfInBounds_toArray, List.set_cons_zero, List.set_cons_succ]
              go_wp2_with fail
              go_roundw
              case rel =>
                refine ⟨j + 1, _, by omega, by go_num, HB5.out.1.setCell (p := ⟨xb, 5, none⟩) HXBO.out.1 _, HB5.out.2.1.far (p := ⟨xb, 5, none⟩) ?_ _, HB5.out.2.2.1.set 5 _, ?_⟩
                · have := HXBO.out.2
                  dsimp only
                  omega
                · rw [HTK.out]
                  exact own_set HB5.out.2.2.2 (own_ne HB5.out.2.2.2 HB5.out.2.2.1 (by decide)) _
              case measure => simp [intOf]; omega
          · obtain rfl : j = x.d.adds.length := by omega
            have hjn : ¬ ((x.d.adds.length : Int) < x.d.adds.length) := by omega
            obtain ⟨x', hx'⟩ : ∃ x' : Wk, x' = ⟨x.d, sA, sc⟩ := ⟨_, rfl⟩
            have hxc : Whole wr xb 87 (wkC x') := by rw [hx']; exact hxw
            have hxo : wr.ownsRow wo.heap.size 38 2 (.slice x'.a x'.d.adds.length x'.cp) x'.d.adds.length (x'.d.adds.flatMap rgL) := by
              rw [hx']
              have h := hown
              rw [List.take_length] at h
              exact h
            have HPA2 := Lib.hid (HPA.out.next hbw)
            have HXD := Lib.hid (show x'.d = x.d by rw [hx'])
            have HXO := Lib.hid (own_more hxo HPA.out.nw.size)
            have y0 := hxc.at 0 (v := vi x'.d.price) rfl
            have y1 := hxc.at 1 (v := vi x'.d.first) rfl
            have y2 := hxc.at 2 (v := vi x'.d.last) rfl
            have y3 := hxc.at 3 (v := vi x'.d.age) rfl
            have y4 := hxc.at 4 (v := vi x'.d.village) rfl
            have y5 := hxc.at 5 (v := .slice x'.a x'.d.adds.length x'.cp) rfl
            clear hbw hrw hxw hown e5 HB hxc hxo hx'
            go_upto_region 11 with fail
            clear d5
            obtain ⟨svA, svc, rfl⟩ := own_form HPA2.out.ws
            have HPA3 := Lib.hid (HPA2.out.next (newer_allocH wr (.cells (wkC x') 87)))
            have HXO3 := Lib.hid (own_below HXO.out (newer_allocH wr (.cells (wkC x') 87)))
            have HNW := Lib.hid (World.news_of_block (Whole.made wr 87 (wkC x')))
            have z2 := HPA2.out.oz.at 2 (v := .slice svA xs.length svc) rfl
            have hxl : xs.length ≤ 1000 := by
              have h := congrArg List.length HXS.out
              simp only [List.length_map, List.length_take] at h
              omega
            have hbz := HPA3.out.nw.size
            obtain ⟨hi0, hz0, hz1, hz2⟩ := HI87.out
            go_wp2_with (at_builtin; go_loud ((refine wpList_append_lies _ rfl (.tmp 71) (.tmp 73) 32 rfl w.heap.size 87 i87 (.agg #[vi 0, vi 0, vi 0, vi 0, vi 0, .slice none 0 0]) 6 64 Try.underlying32 hi0 hz0 hz1 hz2 rfl (by omega) _ xs.length _ rfl HPA3.out.ws ⟨wr.heap.size, 0, none⟩ 1 1 (wkL x') rfl rfl HNW.out (by simp [Value.oneCell']) (by omega) (by unfold maxLen; omega) (by omega) hbz (wr.heap.size + 1) (by simp) ?_); intro gg cp2 w5 hown2 hgrow2 hat2 hlt2'; have ho5 := HPA3.out.oz.grown hgrow2 (own_ne HPA3.out.ws HPA3.out.oz (by decide)).symm; have z5 := ho5.at 2 (v := .slice svA xs.length svc) rfl; have f5 := ho5.free 2; have HPA4 := Lib.hid (HPA3.out.addW hgrow2 hown2 HXO3.out); clear hown2 hgrow2 hat2 hlt2' ho5 hi0 hz0 hz1 hz2 hbz hxl z2 y0 y1 y2 y3 y4 y5))
            go_roundw
            case rel =>
              refine ⟨k + 1, _, xs ++ [x'], by omega, by go_num, ?_, HPA4.out⟩
              rw [List.map_append, HXS.out, List.map_take, List.map_take, List.take_add_one]
              congr 1
              rw [List.getElem?_map, HX.out]
              simp [HXD.out]
            case measure => simp [intOf]; omega
      · obtain rfl : k = p.ws.length := by omega
        have hkn : ¬ ((p.ws.length : Int) < p.ws.length) := by omega
        have hxs : xs.map (·.d) = p.ws.map (·.d) := by rw [HXS.out, List.take_length]
        have HXD := Lib.hid hxs
        have hxl : xs.length = p.ws.length := by simpa using congrArg List.length hxs
        have HXL := Lib.hid hxl
        clear hxs hxl HXS
        go_wp2_with fail
        clear x2
        go_loopw [8] (fun s8 wr => ∃ (k : Nat) (nv : Value), k ≤ p.ns.length ∧ s8 = .int .i64 k ∧ PrA p w ob V2 vc2 Q2 qc2 sv xs nv (p.ns.take k) wr) (fun s8 _ => p.ns.length - (intOf s8).toNat)
        case atStart => exact ⟨0, _, Nat.zero_le _, rfl, HPA.out⟩
        case round =>
          obtain ⟨k, nv, hk, rfl, hpa⟩ := hrel
          clear HPA
          have HPA := Lib.hid hpa
          have x3 := hpa.b0.at 3 (v := .slice p.na p.ns.length p.nc) rfl
          clear hpa
          by_cases hlt : k < p.ns.length
          · have hkn : (k : Int) < p.ns.length := by omega
            obtain ⟨n, hn⟩ := get_of_lt hlt
            obtain ⟨b2, o2, e2, _, c0, c1, c2⟩ := row3 (HOK.out.next HPA.out.nw).ns hn
            rw [e2] at x3
            have HN := Lib.hid hn
            clear hn e2
            go_upto_region 16 with fail
            refine genQ (fun X => newer wr X ∧ Whole X wr.heap.size 60 #[vi n.slope, vi n.year, vi n.due]) ⟨newer_allocH _ _, Whole.made _ _ _⟩ ?_
            obtain ⟨nb, hnb⟩ : ∃ nb, nb = wr.heap.size := ⟨_, rfl⟩
            rw [← hnb]
            clear hnb c0 c1 c2 x3
            rintro w2 ⟨hn2, hwx⟩
            have y0 := hwx.at 0 (v := vi n.slope) rfl
            have y1 := hwx.at 1 (v := vi n.year) rfl
            have y2 := hwx.at 2 (v := vi n.due) rfl
            have HPA2 := Lib.hid (HPA.out.next hn2)
            clear hn2 hwx
            obtain ⟨svA, svc, rfl⟩ := own_form HPA2.out.ns
            have HPA3 := Lib.hid (HPA2.out.next (newer_allocH w2 (.cells #[vi n.slope, vi n.year, vi n.due] 89)))
            have HNW := Lib.hid (World.news_of_block (Whole.made w2 89 #[vi n.slope, vi n.year, vi n.due]))
            have z2 := HPA2.out.oz.at 3 (v := .slice svA (p.ns.take k).length svc) rfl
            have HTK := Lib.hid (show p.ns.take (k + 1) = p.ns.take k ++ [n] by rw [List.take_add_one, HN.out]; rfl)
            have hxl : (p.ns.take k).length ≤ 1000 := by rw [List.length_take]; omega
            have hbz := HPA3.out.nw.size
            obtain ⟨nl, hnl⟩ : ∃ nl, nl = p.ns.take k := ⟨_, rfl⟩
            rw [← hnl] at HPA2 HPA3 HTK z2 hxl
            clear hnl
            obtain ⟨hi0, hz0, hz1, hz2⟩ := HI89.out
            go_wp2_with (at_builtin; go_loud ((refine wpList_append_lies _ rfl (.tmp 89) (.tmp 97) 33 rfl w.heap.size 89 i89 (.agg #[vi 0, vi 0, vi 0]) 3 24 Try.underlying33 hi0 hz0 hz1 hz2 rfl (by omega) _ nl.length _ rfl HPA3.out.ns ⟨w2.heap.size, 0, none⟩ 1 1 (ndL n) rfl rfl HNW.out (by simp [Value.oneCell']) (by omega) (by unfold maxLen; omega) (by omega) hbz (w2.heap.size + 1) (by simp) ?_); intro gg cp2 w5 hown2 hgrow2 hat2 hlt2'; have ho5 := HPA3.out.oz.grown hgrow2 (own_ne HPA3.out.ns HPA3.out.oz (by decide)).symm; have z5 := ho5.at 3 (v := .slice svA nl.length svc) rfl; have f5 := ho5.free 3; have HPA4 := Lib.hid (HPA3.out.addN hgrow2 hown2); clear hown2 hgrow2 hat2 hlt2' ho5 hi0 hz0 hz1 hz2 hbz hxl z2 y0 y1 y2))
            go_roundw
            case rel => exact ⟨k + 1, _, by omega, by go_num, by rw [HTK.out]; exact HPA4.out⟩
            case measure => simp [intOf]; omega
          · obtain rfl : k = p.ns.length := by omega
            have hkn : ¬ ((p.ns.length : Int) < p.ns.length) := by omega
            have hpz := HPA.out
            rw [List.take_length] at hpz
            obtain ⟨svA, svc, rfl⟩ := own_form hpz.ws
            obtain ⟨nvA, nvc, rfl⟩ := own_form hpz.ns
            have HPZ := Lib.hid hpz
            have z0 := hpz.oz.at 0 (v := (vi p.years)) rfl
            have z1 := hpz.oz.at 1 (v := (vi p.slopes)) rfl
            have z2 := hpz.oz.at 2 (v := (.slice svA xs.length svc)) rfl
            have z3 := hpz.oz.at 3 (v := (.slice nvA p.ns.length nvc)) rfl
            have z4 := hpz.oz.at 4 (v := (.slice V2 p.vs.length vc2)) rfl
            have z5 := hpz.oz.at 5 (v := (.slice Q2 p.ps.length qc2)) rfl
            have b0 := hpz.b1.at 0 rfl
            have b1 := hpz.b1.at 1 rfl
            have b2 := hpz.b1.at 2 rfl
            have b3 := hpz.b1.at 3 rfl
            have b4 := hpz.b1.at 4 rfl
            have b5 := hpz.b1.at 5 rfl
            have f0 := hpz.b1.free 0
            have f1 := hpz.b1.free 1
            have f2 := hpz.b1.free 2
            have f3 := hpz.b1.free 3
            have f4 := hpz.b1.free 4
            have f5 := hpz.b1.free 5
            clear hpz HPA
            go_wp2_with fail
            have hw := ((((((HPZ.out.b1).set 0 (vi p.years)).set 1 (vi p.slopes)).set 2 (.slice svA xs.length svc)).set 3 (.slice nvA p.ns.length nvc)).set 4 (.slice V2 p.vs.length vc2)).set 5 (.slice Q2 p.ps.length qc2)
            have hrow : ∀ {e : TypeId} {s n : Nat} {v : Value} {ys : List Value}, wr.ownsRow w.heap.size e s v n ys → e ≠ 35 → (((((((wr).setCell ⟨w.heap.size + 1, 0, none⟩ (vi p.years)).setCell ⟨w.heap.size + 1, 1, none⟩ (vi p.slopes)).setCell ⟨w.heap.size + 1, 2, none⟩ (.slice svA xs.length svc)).setCell ⟨w.heap.size + 1, 3, none⟩ (.slice nvA p.ns.length nvc)).setCell ⟨w.heap.size + 1, 4, none⟩ (.slice V2 p.vs.length vc2)).setCell ⟨w.heap.size + 1, 5, none⟩ (.slice Q2 p.ps.length qc2)).ownsRow w.heap.size e s v n ys := fun ho hne => own_put6 HPZ.out.b1 ho hne _ _ _ _ _ _
            have hn : newer w (((((((wr).setCell ⟨w.heap.size + 1, 0, none⟩ (vi p.years)).setCell ⟨w.heap.size + 1, 1, none⟩ (vi p.slopes)).setCell ⟨w.heap.size + 1, 2, none⟩ (.slice svA xs.length svc)).setCell ⟨w.heap.size + 1, 3, none⟩ (.slice nvA p.ns.length nvc)).setCell ⟨w.heap.size + 1, 4, none⟩ (.slice V2 p.vs.length vc2)).setCell ⟨w.heap.size + 1, 5, none⟩ (.slice Q2 p.ps.length qc2)) := ((((((HPZ.out.nw).setCell (p := ⟨w.heap.size + 1, 0, none⟩) (by dsimp only; omega) (vi p.years)).setCell (p := ⟨w.heap.size + 1, 1, none⟩) (by dsimp only; omega) (vi p.slopes)).setCell (p := ⟨w.heap.size + 1, 2, none⟩) (by dsimp only; omega) (.slice svA xs.length svc)).setCell (p := ⟨w.heap.size + 1, 3, none⟩) (by dsimp only; omega) (.slice nvA p.ns.length nvc)).setCell (p := ⟨w.heap.size + 1, 4, none⟩) (by dsimp only; omega) (.slice V2 p.vs.length vc2)).setCell (p := ⟨w.heap.size + 1, 5, none⟩) (by dsimp only; omega) (.slice Q2 p.ps.length qc2)
            have k0 := hw.at 0 (v := vi p.years) rfl
            have k1 := hw.at 1 (v := vi p.slopes) rfl
            have k2 := hw.at 2 (v := .slice svA xs.length svc) rfl
            have k3 := hw.at 3 (v := .slice nvA p.ns.length nvc) rfl
            have k4 := hw.at 4 (v := .slice V2 p.vs.length vc2) rfl
            have k5 := hw.at 5 (v := .slice Q2 p.ps.length qc2) rfl
            have HEND : Hid ((∃ p' : Pm, pmV p' = .agg #[vi p.years, vi p.slopes, .slice svA xs.length svc, .slice nvA p.ns.length nvc, .slice V2 p.vs.length vc2, .slice Q2 p.ps.length qc2] ∧ p'.pj = p.pj ∧ PmOk p' (((((((wr).setCell ⟨w.heap.size + 1, 0, none⟩ (vi p.years)).setCell ⟨w.heap.size + 1, 1, none⟩ (vi p.slopes)).setCell ⟨w.heap.size + 1, 2, none⟩ (.slice svA xs.length svc)).setCell ⟨w.heap.size + 1, 3, none⟩ (.slice nvA p.ns.length nvc)).setCell ⟨w.heap.size + 1, 4, none⟩ (.slice V2 p.vs.length vc2)).setCell ⟨w.heap.size + 1, 5, none⟩ (.slice Q2 p.ps.length qc2)) ∧ p'.ps.length ≤ p'.pc) ∧ newer w (((((((wr).setCell ⟨w.heap.size + 1, 0, none⟩ (vi p.years)).setCell ⟨w.heap.size + 1, 1, none⟩ (vi p.slopes)).setCell ⟨w.heap.size + 1, 2, none⟩ (.slice svA xs.length svc)).setCell ⟨w.heap.size + 1, 3, none⟩ (.slice nvA p.ns.length nvc)).setCell ⟨w.heap.size + 1, 4, none⟩ (.slice V2 p.vs.length vc2)).setCell ⟨w.heap.size + 1, 5, none⟩ (.slice Q2 p.ps.length qc2))) := Lib.hid (by
              refine ⟨⟨⟨p.years, p.slopes, xs, svA, svc, p.ns, nvA, nvc, p.vs, V2, vc2, p.ps, Q2, qc2⟩, rfl, ?_, ⟨?_, ?_, ?_, ?_, ?_⟩, ?_⟩, hn⟩
              · simp only [Pm.pj]
                rw [HXD.out]
              · exact row_of_own (enc := wkL) (size := 6) (by omega) (fun _ => rfl) (hrow HPZ.out.ws (by decide))
              · intro x hx
                exact row_of_own (enc := rgL) (size := 2) (by omega) (fun _ => rfl) (hrow (HPZ.out.ad x hx) (by decide))
              · exact row_of_own (enc := ndL) (size := 3) (by omega) (fun _ => rfl) (hrow HPZ.out.ns (by decide))
              · exact row_of_own (enc := boL) (size := 1) (by omega) (fun _ => rfl) (hrow HPZ.out.vs (by decide))
              · exact row_of_own (enc := intL) (size := 1) (by omega) (fun _ => rfl) (hrow HPZ.out.ps (by decide))
              · exact (own_room HPZ.out.ps).1)
            clear hw hrow hn z0 z1 z2 z3 z4 z5 b0 b1 b2 b3 b4 b5 f0 f1 f2 f3 f4 f5
            obtain ⟨⟨p', hp', hpj, hpo, hpc⟩, hn⟩ := HEND.out
            exact bodyPost_ret (v := .agg #[vi p.years, vi p.slopes, .slice svA xs.length svc, .slice nvA p.ns.length nvc, .slice V2 p.vs.length vc2, .slice Q2 p.ps.length qc2]) (by simp [results, Try.results19, go_sem, k0, k1, k2, k3, k4, k5]) rfl ⟨⟨p', by rw [hp'], hpj, hpo, hpc⟩, hn⟩
end Go.Proofs.Ytpnpnfjhjjdmgaa
