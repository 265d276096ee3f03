/- The state after one work more is built in a year, or never. -/
import Derived.Test.YtpnpnfjhjjdmgaaL
import Derived.Deep.CutBlock
import Derived.Laws.Cells
import Derived.Laws.Tables
import Derived.Laws.Rows
namespace Go.Proofs.Ytpnpnfjhjjdmgaa
open Go.RowKit Go.Deep

theorem Try.info123s : (Try.prog.info? 123).map (fun i => i.size) = some 26 := by kernel_rfl
theorem load_run {s : Sx} {W : World} {b : Nat} (hw : Whole W b 123 (stC s)) : (loadVar 123 ⟨b, 0, none⟩).run Try.prog W = .ok (.agg (stC s)) W := by
  have hu := run_underlying (P := Try.prog) (w := W) Try.underlying123
  obtain ⟨i0, hi0, hz⟩ := Option.map_eq_some_iff.1 Try.info123s
  have hl := run_loadCells_list (P := Try.prog) W ⟨b, 0, none⟩ (stC s).toList (fun j v hj => by
    have := hw.at j (v := v) (by rw [← Array.getElem?_toList]; exact hj)
    rw [add_row, Nat.zero_add]
    exact this)
  have hlen : (stC s).toList.length = 26 := rfl
  rw [hlen] at hl
  generalize stC s = c at hl
  simp [loadVar, isAgg, hu, sizeOf, typeInfo, hi0, hz, hl]
theorem store_run {W : World} {b : Nat} {cs vs : Array Value} (hw : Whole W b 123 cs) (hc : cs.size = 26) (hv : vs.size = 26) (h1 : ∀ v ∈ vs.toList, v.oneCell' = true) : (storeVar 123 ⟨b, 0, none⟩ (.agg vs)).run Try.prog W = .ok () (W.setRow b vs) := by
  obtain ⟨i0, hi0, hz⟩ := Option.map_eq_some_iff.1 Try.info123s
  have hs := run_storeCells_from (P := Try.prog) b 123 vs.toList 0 cs W hw (by simp; omega) h1
  simp at hs
  simp [storeVar, Value.cells, sizeOf, typeInfo, hi0, hz, hv, hs]
theorem Whole.setRow {W : World} {b : Nat} {t : TypeId} {cs : Array Value} (h : Whole W b t cs) (vs : Array Value) : Whole (W.setRow b vs) b t vs := by
  unfold Whole at h ⊢
  simp [World.setRow, Array.getElem?_modify, h]
theorem below_setRow {B : Nat} {w W : World} {b : Nat} (h : Below B w W) (hb : B ≤ b) (vs : Array Value) : Below B w (W.setRow b vs) :=
  ⟨h.os, h.tape, h.output, by simpa [World.setRow] using h.size, fun i hi => by
    rw [← h.block i hi]
    simp only [World.setRow, Array.getElem?_modify]
    rw [if_neg (by omega)]⟩
theorem exec_load {o : Oper} {a : Act} {W : World} {b : Nat} {c : Array Value} {x : Operand} (ho : o.op = .load 123 x) (hx : a.eval x = .pointer (some ⟨b, 0, none⟩))  (hl : (loadVar 123 ⟨b, 0, none⟩).run Try.prog W = .ok (.agg c) W) : (execOp a.eval o).run Try.prog W = .ok (.value (.agg c)) W := by
  unfold execOp
  rw [ho]
  dsimp only
  rw [hx]
  have e : Instr.loadAt 123 (Value.pointer (some { block := b, off := 0 })) = loadVar 123 ⟨b, 0, none⟩ := rfl
  rw [e]
  generalize loadVar 123 ⟨b, 0, none⟩ = m at hl
  simp [hl]
theorem exec_store {o : Oper} {a : Act} {W W' : World} {b : Nat} {c : Array Value} {x y : Operand} (ho : o.op = .store 123 x y) (hx : a.eval x = .pointer (some ⟨b, 0, none⟩)) (hy : a.eval y = .agg c)  (hl : (storeVar 123 ⟨b, 0, none⟩ (.agg c)).run Try.prog W = .ok () W') : (execOp a.eval o).run Try.prog W = .ok .skip W' := by
  unfold execOp
  rw [ho]
  dsimp only
  rw [hx, hy]
  have e : Instr.storeAt 123 (Value.pointer (some { block := b, off := 0 })) (.agg c) = storeVar 123 ⟨b, 0, none⟩ (.agg c) := rfl
  rw [e]
  generalize storeVar 123 ⟨b, 0, none⟩ (.agg c) = m at hl
  simp [hl]
theorem wpList_load_s {ops : Array Oper} {rest : List Oper} {o : Oper} {a : Act} {Q : Exit → Act → World → Prop} {W : World} {s : Sx} (hg : o.guard = none) (x : Operand) (ho : o.op = .load 123 x) (b : Nat) (hx : a.eval x = .pointer (some ⟨b, 0, none⟩)) (hw : Whole W b 123 (stC s)) (h : wpList Try.prog ops Q rest (a.put o.dst (.agg (stC s))) W) : wpList Try.prog ops Q (o :: rest) a W :=
  wpList_plain hg fun _ hK => by
    have hl := load_run hw
    generalize stC s = c at hl h
    unfold Oper.wp
    rw [exec_load ho hx hl]
    exact hK _ _ h
theorem wpList_store_s {ops : Array Oper} {rest : List Oper} {o : Oper} {a : Act} {Q : Exit → Act → World → Prop} {W : World} {s : Sx} {cs : Array Value} (hg : o.guard = none) (x y : Operand) (ho : o.op = .store 123 x y) (b : Nat) (hx : a.eval x = .pointer (some ⟨b, 0, none⟩)) (hy : a.eval y = .agg (stC s)) (hw : Whole W b 123 cs) (hc : cs.size = 26) (h : wpList Try.prog ops Q rest (a.put o.dst undef) (W.setRow b (stC s))) : wpList Try.prog ops Q (o :: rest) a W :=
  wpList_plain hg fun _ hK => by
    have hl := store_run (vs := stC s) hw hc rfl (by simp [Value.oneCell'])
    generalize stC s = c at hl h hy
    unfold Oper.wp
    rw [exec_store ho hx hy hl]
    exact hK _ _ h
def addU (x : Wd) (y : Int) (n : Nd) (v : Int) : Int := mnI n.due (v + addsN x y n.year (rAt x.adds n.slope.toNat).lo)
/-- What is added to the first needs. -/
def buildA (x : Wd) (y : Int) (ns : List Nd) (a : List Int) : Nat → List Int
  | 0 => a
  | k + 1 => match ns[k]? with
    | some n => (buildA x y ns a k).set k (addU x y n (iAt a k))
    | none => buildA x y ns a k
def buildS (x : Wd) (ns : List Nd) (s : Sx) (y : Int) : Sx :=
  if y = -1 then ⟨s.n + 1, s.a, s.p⟩ else ⟨s.n + 1, buildA x y ns s.a ns.length, s.p.set y.toNat (iAt s.p y.toNat + x.price)⟩
theorem buildA_len (x : Wd) (y : Int) (ns : List Nd) (a : List Int) : ∀ k, (buildA x y ns a k).length = a.length
  | 0 => rfl
  | k + 1 => by
    unfold buildA
    split
    · rw [List.length_set]; exact buildA_len x y ns a k
    · exact buildA_len x y ns a k
theorem buildA_far (x : Wd) (y : Int) (ns : List Nd) (a : List Int) : ∀ k i, k ≤ i → (buildA x y ns a k)[i]? = a[i]?
  | 0, _, _ => rfl
  | k + 1, i, h => by
    unfold buildA
    split
    · rw [List.getElem?_set_ne (by omega)]; exact buildA_far x y ns a k i (by omega)
    · exact buildA_far x y ns a k i (by omega)
/-- What building holds in memory. -/
structure BdM (w : World) (x : Wk) (sb rb xb : Nat) (s : Sx) (W : World) : Prop where
  nw : newer w W
  sx : Whole W sb 123 (stC s)
  rx : Whole W rb 123 #[vi 0, vi 0, vi 0, vi 0, vi 0, vi 0, vi 0, vi 0, vi 0, vi 0, vi 0, vi 0, vi 0, vi 0, vi 0, vi 0, vi 0, vi 0, vi 0, vi 0, vi 0, vi 0, vi 0, vi 0, vi 0, vi 0]
  xx : Whole W xb 87 (wkC x)
theorem BdM.next {w W W' : World} {x : Wk} {sb rb xb : Nat} {s : Sx} (h : BdM w x sb rb xb s W) (hb : newer W W') : BdM w x sb rb xb s W' :=
  ⟨newer_trans h.nw hb, h.sx.below hb h.sx.lt, h.rx.below hb h.rx.lt, h.xx.below hb h.xx.lt⟩
theorem BdM.turn {w W : World} {x : Wk} {sb rb xb : Nat} {s s' : Sx} (h : BdM w x sb rb xb s W) (i : Nat) (u : Value) (hs : w.heap.size ≤ sb) (h1 : rb ≠ sb) (h2 : xb ≠ sb) (e : (stC s).setIfInBounds i u = stC s') : BdM w x sb rb xb s' (W.setCell ⟨sb, i, none⟩ u) :=
  ⟨h.nw.setCell (p := ⟨sb, i, none⟩) hs _, e ▸ h.sx.set i u, h.rx.far (p := ⟨sb, i, none⟩) h1 _, h.xx.far (p := ⟨sb, i, none⟩) h2 _⟩
set_option maxRecDepth 100000 in
set_option maxHeartbeats 4000000 in
theorem build_any (p : Pm) (wo : Int) (mb qb : Nat) (s : Sx) (y : Int) (x : Wk) (w : World) (hok : PmOk p w) (hpo : PjOk p) (hq : Whole w qb 119 (plC p wo mb)) (h : SxOk s) (hx : p.ws[s.n]? = some x) (hy : y = -1 ∨ (0 ≤ y ∧ y ≤ 4))
    (ha : ∀ z ∈ s.a, 0 ≤ z ∧ z ≤ 1000000) (hp : ∀ z ∈ s.p, 0 ≤ z ∧ z ≤ 1000000000) :
    Calls Try.prog 83 #[.pointer (some ⟨qb, 0, none⟩), .agg (stC s), vi y] w fun e w' => e = .returned (.agg (stC (buildS x.d p.ns s y))) ∧ newer w w' := by
  have hnw := newer_trans (newer_allocH w (.cells (stC s) 123)) (newer_allocH (w.alloc (.cells (stC s) 123)) (.cells #[vi 0, vi 0, vi 0, vi 0, vi 0, vi 0, vi 0, vi 0, vi 0, vi 0, vi 0, vi 0, vi 0, vi 0, vi 0, vi 0, vi 0, vi 0, vi 0, vi 0, vi 0, vi 0, vi 0, vi 0, vi 0, vi 0] 123))
  have hs := (Whole.made w 123 (stC s)).alloc (.cells #[vi 0, vi 0, vi 0, vi 0, vi 0, vi 0, vi 0, vi 0, vi 0, vi 0, vi 0, vi 0, vi 0, vi 0, vi 0, vi 0, vi 0, vi 0, vi 0, vi 0, vi 0, vi 0, vi 0, vi 0, vi 0, vi 0] 123)
  have hr := Whole.made (w.alloc (.cells (stC s) 123)) 123 #[vi 0, vi 0, vi 0, vi 0, vi 0, vi 0, vi 0, vi 0, vi 0, vi 0, vi 0, vi 0, vi 0, vi 0, vi 0, vi 0, vi 0, vi 0, vi 0, vi 0, vi 0, vi 0, vi 0, vi 0, vi 0, vi 0]
  simp only [World.size_alloc] at hr
  have hsl := (List.getElem?_eq_some_iff.1 hx).1
  have hsn : (s.n : Int) < p.ws.length := by omega
  have hn8 := hpo.wn
  have HPO := Lib.hid hpo
  have HS := Lib.hid (And.intro h (And.intro ha hp))
  have HX := Lib.hid hx
  have HQ := Lib.hid (And.intro hok hq)
  clear h ha hp hx hpo hok hq hsl
  go_enter Try.func83, Try.ntmps83
  go_upto_region 1 with fail
  refine genQ (fun X => newer w X ∧ Whole X w.heap.size 123 (stC s) ∧ Whole X (w.heap.size + 1) 123 #[vi 0, vi 0, vi 0, vi 0, vi 0, vi 0, vi 0, vi 0, vi 0, vi 0, vi 0, vi 0, vi 0, vi 0, vi 0, vi 0, vi 0, vi 0, vi 0, vi 0, vi 0, vi 0, vi 0, vi 0, vi 0, vi 0]) ⟨hnw, hs, hr⟩ ?_
  obtain ⟨sb, hsb⟩ : ∃ sb, sb = w.heap.size := ⟨_, rfl⟩
  rw [← hsb]
  obtain ⟨rb, hrb⟩ : ∃ rb, rb = sb + 1 := ⟨_, rfl⟩
  rw [← hrb]
  clear hnw hs hr
  rintro wv ⟨hn, hs, hr⟩
  have s0 := hs.at 0 (v := vi (s.n : Int)) rfl
  have q2 := (HQ.out.2.below hn HQ.out.2.lt).at 2 (v := .slice p.wa p.ws.length p.wc) rfl
  obtain ⟨b2, o2, e2, _, d0, d1, d2, d3, d4, d5⟩ := row6 (HQ.out.1.next hn).ws HX.out
  rw [e2] at q2
  clear e2
  have HW := Lib.hid (And.intro hn (And.intro hs hr))
  have HSZ0 := Lib.hid (And.intro hsb hrb)
  clear hn hs hr hsb hrb
  refine wp_words (by kernel_rfl) (region_told 10 (by kernel_rfl) (by kernel_rfl) (fun W => Below wv.heap.size wv W) newer (pickD [vIs (.pointer (some ⟨qb, 0, none⟩)), vIs (.pointer (some ⟨qb, 0, none⟩)), vIs (.pointer (some ⟨qb, 0, none⟩)), vIs (.pointer (some ⟨qb, 2, none⟩)), vIs (.slice (some ⟨b2, o2, none⟩) p.ws.length p.wc), vIs (.pointer (some ⟨sb, 0, none⟩)), vIs (vi (s.n : Int)), vIs (.pointer (some ⟨b2, o2 + s.n * 6, none⟩)), vIs (wkV x), vNew wv.heap.size 87 #[vi 0, vi 0, vi 0, vi 0, vi 0, .slice none 0 0]]) (fun h k => newer_trans h k) (pickD_stable _ ⟨vIs_st, vIs_st, vIs_st, vIs_st, vIs_st, vIs_st, vIs_st, vIs_st, vIs_st, vNew_st, trivial⟩) (Below.refl _ wv).drew (Below.refl _ _) ?_ ?_)
  · refine ⟨?_, ?_, ?_, ?_, ?_, ?_, ?_, ?_, ?_, ?_, trivial⟩
    · intro a W hG hR hO hp
      have h0 := hO.slot 0 (by kernel_rfl)
      refine wp_yields (v := .pointer (some ⟨qb, 0, none⟩)) ?_ ⟨_, rfl, rfl, Below.refl _ _, hG⟩
      simp [slotOf] at h0
      simp [execOp, go_sem, h0]
    · intro a W hG hR hO hp
      have h10 : slotOf a 10 = .pointer (some ⟨qb, 0, none⟩) := hp.1
      refine wp_yields (v := .pointer (some ⟨qb, 0, none⟩)) ?_ ⟨_, rfl, rfl, Below.refl _ _, hG⟩
      simp [slotOf] at h10
      simp [execOp, go_sem, h10]
    · intro a W hG hR hO hp
      have h11 : slotOf a 11 = .pointer (some ⟨qb, 0, none⟩) := hp.1
      refine wp_yields (v := .pointer (some ⟨qb, 0, none⟩)) ?_ ⟨_, rfl, rfl, Below.refl _ _, hG⟩
      simp [slotOf] at h11
      simp [execOp, go_sem, h11]
    · intro a W hG hR hO hp
      have h12 : slotOf a 12 = .pointer (some ⟨qb, 0, none⟩) := hp.1
      refine wp_yields (v := .pointer (some ⟨qb, 2, none⟩)) ?_ ⟨_, rfl, rfl, Below.refl _ _, hG⟩
      simp [slotOf] at h12
      simp [execOp, go_sem, h12]
    · intro a W hG hR hO hp
      have h13 : slotOf a 13 = .pointer (some ⟨qb, 2, none⟩) := hp.1
      have c0 := keep_cell q2 hG
      refine wp_yields (v := .slice (some ⟨b2, o2, none⟩) p.ws.length p.wc) ?_ ⟨_, rfl, rfl, Below.refl _ _, hG⟩
      simp [slotOf] at h13
      simp [execOp, go_sem, h13, c0]
    · intro a W hG hR hO hp
      have h4 := hO.slot 4 (by kernel_rfl)
      refine wp_yields (v := .pointer (some ⟨sb, 0, none⟩)) ?_ ⟨_, rfl, rfl, Below.refl _ _, hG⟩
      simp [slotOf] at h4
      simp [execOp, go_sem, h4]
    · intro a W hG hR hO hp
      have h15 : slotOf a 15 = .pointer (some ⟨sb, 0, none⟩) := hp.1
      have c0 := keep_cell s0 hG
      refine wp_yields (v := vi (s.n : Int)) ?_ ⟨_, rfl, rfl, Below.refl _ _, hG⟩
      simp [slotOf] at h15
      simp [execOp, go_sem, h15, c0]
    · intro a W hG hR hO hp
      have h14 : slotOf a 14 = .slice (some ⟨b2, o2, none⟩) p.ws.length p.wc := hp.1
      have h16 : slotOf a 16 = vi (s.n : Int) := hp.2.1
      refine wp_yields (v := .pointer (some ⟨b2, o2 + s.n * 6, none⟩)) ?_ ⟨_, rfl, rfl, Below.refl _ _, hG⟩
      simp [slotOf] at h14 h16
      simp [execOp, go_sem, h14, h16, hsn]
    · intro a W hG hR hO hp
      have h17 : slotOf a 17 = .pointer (some ⟨b2, o2 + s.n * 6, none⟩) := hp.1
      have c0 := keep_cell d0 hG
      have c1 := keep_cell d1 hG
      have c2 := keep_cell d2 hG
      have c3 := keep_cell d3 hG
      have c4 := keep_cell d4 hG
      have c5 := keep_cell d5 hG
      refine wp_yields (v := wkV x) ?_ ⟨_, rfl, rfl, Below.refl _ _, hG⟩
      simp [slotOf] at h17
      simp [execOp, go_sem, h17, c0, c1, c2, c3, c4, c5]
    · intro a W hG hR hO hp
      refine wp_makes (v := .pointer (some ⟨W.heap.size, 0, none⟩)) (W' := W.alloc (.cells #[vi 0, vi 0, vi 0, vi 0, vi 0, .slice none 0 0] 87)) ?_ ⟨_, rfl, ⟨_, rfl, hG.size, Whole.made _ _ _⟩, (Below.refl _ _).alloc (Nat.le_refl _) _, hG.alloc hG.size _⟩
      skip
      simp [execOp, go_sem]
  · intro W hG hR
    rintro _ rfl _ rfl _ rfl _ rfl _ rfl _ rfl _ rfl _ rfl _ rfl _ ⟨xb, rfl, hxb, hwx⟩
    change wpList _ _ _ _ _ _
    simp only [Act.put, List.setIfInBounds_toArray, List.set_cons_zero, List.set_cons_succ, List.drop_succ_cons, List.drop_zero]
    have HG := Lib.hid (And.intro hG hxb)
    have HWX := Lib.hid hwx
    have b0 := hwx.at 0 rfl
    have b1 := hwx.at 1 rfl
    have b2 := hwx.at 2 rfl
    have b3 := hwx.at 3 rfl
    have b4 := hwx.at 4 rfl
    have b5 := hwx.at 5 rfl
    have f0 := hwx.free 0
    have f1 := hwx.free 1
    have f2 := hwx.free 2
    have f3 := hwx.free 3
    have f4 := hwx.free 4
    have f5 := hwx.free 5
    have HSZ : Hid (w.heap.size ≤ sb ∧ w.heap.size ≤ rb ∧ w.heap.size ≤ xb ∧ rb ≠ sb ∧ xb ≠ sb ∧ xb ≠ rb) := Lib.hid (by
      have h1 := HSZ0.out.1
      have h2 := HSZ0.out.2
      have h3 := HW.out.2.2.lt
      have h4 := HG.out.2
      refine ⟨?_, ?_, ?_, ?_, ?_, ?_⟩ <;> omega)
    clear hG hR hxb hwx q2 s0 d0 d1 d2 d3 d4 d5
    go_upto_region 2 with fail
    have HNB := Lib.hid (((((((HG.out.1).setCell (p := ⟨xb, 0, none⟩) HG.out.2 (vi x.d.price)).setCell (p := ⟨xb, 1, none⟩) HG.out.2 (vi x.d.first)).setCell (p := ⟨xb, 2, none⟩) HG.out.2 (vi x.d.last)).setCell (p := ⟨xb, 3, none⟩) HG.out.2 (vi x.d.age)).setCell (p := ⟨xb, 4, none⟩) HG.out.2 (vi x.d.village)).setCell (p := ⟨xb, 5, none⟩) HG.out.2 (.slice x.a x.d.adds.length x.cp))
    refine genQ (BdM w x sb rb xb s) ⟨newer_trans HW.out.1 HNB.out, HW.out.2.1.below HNB.out HW.out.2.1.lt, HW.out.2.2.below HNB.out HW.out.2.2.lt, ((((((HWX.out).set 0 _).set 1 _).set 2 _).set 3 _).set 4 _).set 5 _⟩ ?_
    clear HG HWX HW HNB b0 b1 b2 b3 b4 b5 f0 f1 f2 f3 f4 f5 HSZ0
    intro wv hb
    have s0 := hb.sx.at 0 (v := vi (s.n : Int)) rfl
    have fs := hb.sx.free 0
    have wn : IntKind.i64.wrap ((s.n : Int) + 1) = (s.n : Int) + 1 := IntWalk.i64_in _ (by omega)
    have HB := Lib.hid hb
    clear hb
    go_upto_region 3 with fail
    obtain ⟨s1, hs1⟩ : ∃ s1 : Sx, s1 = ⟨s.n + 1, s.a, s.p⟩ := ⟨_, rfl⟩
    refine genQ (BdM w x sb rb xb s1) (HB.out.turn 0 _ HSZ.out.1 HSZ.out.2.2.2.1 HSZ.out.2.2.2.2.1 (by rw [hs1]; exact stC_set_n s (s.n + 1))) ?_
    have HS1 := Lib.hid hs1
    clear HB s0 fs wn hs1
    intro wv hb
    by_cases hy1 : y = -1
    case pos =>
      have hyb : (y == -1) = true := by rw [beq_iff_eq]; exact hy1
      have hbs : buildS x.d p.ns s y = s1 := by unfold buildS; rw [if_pos hy1, HS1.out]
      have HBS := Lib.hid hbs
      clear hbs hy1 hy
      have HE := Lib.hid hb
      clear hb
      go_wp2_with (first | (refine wpList_load_s (s := s1) rfl (.tmp 4) rfl sb rfl HE.out.sx ?_) | (refine wpList_store_s (s := s1) rfl (.tmp 6) (.tmp 25) rfl rb rfl rfl HE.out.rx rfl ?_))
      exact bodyPost_ret (v := .agg (stC s1)) (results_cell_row (fn := Try.f83) Try.results83 _ _ rb 123 (stC s1) (0, 0) _ rfl (HE.out.rx.setRow (stC s1)) Try.underlying123 rfl (by rw [Try.info123s]; rfl)) rfl ⟨by rw [HBS.out], below_setRow HE.out.nw HSZ.out.2.1 _⟩
    case neg =>
      have hyb : (y == -1) = false := by rw [beq_eq_false_iff_ne]; exact hy1
      obtain ⟨yk, hyk⟩ : ∃ yk : Nat, y = yk := ⟨y.toNat, by omega⟩
      have hy4 : yk ≤ 4 := by omega
      subst hyk
      have hy5 : (yk : Int) < 5 := by omega
      have HY1 := Lib.hid hy1
      obtain ⟨pv, hpv⟩ := get_of_lt (l := s.p) (k := yk) (by rw [HS.out.1.p]; omega)
      have hpb := HS.out.2.2 pv (List.mem_of_getElem? hpv)
      have hw := wdB_parts (HPO.out.ws x (List.mem_of_getElem? HX.out))
      obtain ⟨pn, hpn⟩ : ∃ pn, pn = pv + x.d.price := ⟨_, rfl⟩
      have epn : IntKind.i64.wrap (pv + x.d.price) = pn := by rw [← hpn]; exact IntWalk.i64_in _ (by omega)
      have ok1 : SxOk s1 := by rw [HS1.out]; exact ⟨HS.out.1.a, HS.out.1.p⟩
      have hp1 : s1.p[yk]? = some pv := by rw [HS1.out]; exact hpv
      have HP := Lib.hid (And.intro hpv (And.intro hpn (And.intro ok1 (stC_p ok1 hp1))))
      have cp := hb.sx.at (21 + yk) HP.out.2.2.2
      have cx := hb.xx.at 0 (v := vi x.d.price) rfl
      have HB := Lib.hid hb
      clear hy hy1 hpv hpb hw hpn ok1 hp1 hb
      go_upto_region 5 with fail
      refine wp_words (by kernel_rfl) (region_told 9 (by kernel_rfl) (by kernel_rfl) (fun W => Below wv.heap.size wv W) newer (pickD [vIs (vi (yk : Int)), vIs (.pointer (some ⟨sb, 21, none⟩)), vIs (.pointer (some ⟨sb, 21 + yk, none⟩)), vIs (vi pv), vIs (.pointer (some ⟨xb, 0, none⟩)), vIs (vi x.d.price), vIs (vi pn), vIs (.pointer (some ⟨sb, 21, none⟩)), vIs (.pointer (some ⟨sb, 21 + yk, none⟩))]) (fun h k => newer_trans h k) (pickD_stable _ ⟨vIs_st, vIs_st, vIs_st, vIs_st, vIs_st, vIs_st, vIs_st, vIs_st, vIs_st, trivial⟩) (Below.refl _ wv).drew (Below.refl _ _) ?_ ?_)
      · refine ⟨?_, ?_, ?_, ?_, ?_, ?_, ?_, ?_, ?_, trivial⟩
        · intro a W hG hR hO hp
          have h2 := hO.slot 2 (by kernel_rfl)
          refine wp_yields (v := vi (yk : Int)) ?_ ⟨_, rfl, rfl, Below.refl _ _, hG⟩
          simp [slotOf] at h2
          simp [execOp, go_sem, h2]
        · intro a W hG hR hO hp
          have h4 := hO.slot 4 (by kernel_rfl)
          refine wp_yields (v := .pointer (some ⟨sb, 21, none⟩)) ?_ ⟨_, rfl, rfl, Below.refl _ _, hG⟩
          simp [slotOf] at h4
          simp [execOp, go_sem, h4]
        · intro a W hG hR hO hp
          have h27 : slotOf a 27 = .pointer (some ⟨sb, 21, none⟩) := hp.1
          have h26 : slotOf a 26 = vi (yk : Int) := hp.2.1
          refine wp_yields (v := .pointer (some ⟨sb, 21 + yk, none⟩)) ?_ ⟨_, rfl, rfl, Below.refl _ _, hG⟩
          simp [slotOf] at h27 h26
          simp [execOp, go_sem, h27, h26, hy5]
        · intro a W hG hR hO hp
          have h28 : slotOf a 28 = .pointer (some ⟨sb, 21 + yk, none⟩) := hp.1
          have c0 := keep_cell cp hG
          refine wp_yields (v := vi pv) ?_ ⟨_, rfl, rfl, Below.refl _ _, hG⟩
          simp [slotOf] at h28
          simp [execOp, go_sem, h28, c0]
        · intro a W hG hR hO hp
          have h7 := hO.slot 7 (by kernel_rfl)
          refine wp_yields (v := .pointer (some ⟨xb, 0, none⟩)) ?_ ⟨_, rfl, rfl, Below.refl _ _, hG⟩
          simp [slotOf] at h7
          simp [execOp, go_sem, h7]
        · intro a W hG hR hO hp
          have h30 : slotOf a 30 = .pointer (some ⟨xb, 0, none⟩) := hp.1
          have c0 := keep_cell cx hG
          refine wp_yields (v := vi x.d.price) ?_ ⟨_, rfl, rfl, Below.refl _ _, hG⟩
          simp [slotOf] at h30
          simp [execOp, go_sem, h30, c0]
        · intro a W hG hR hO hp
          have h29 : slotOf a 29 = vi pv := hp.1
          have h31 : slotOf a 31 = vi x.d.price := hp.2.1
          refine wp_yields (v := vi pn) ?_ ⟨_, rfl, rfl, Below.refl _ _, hG⟩
          simp [slotOf] at h29 h31
          simp [execOp, go_sem, h29, h31, epn]
        · intro a W hG hR hO hp
          have h4 := hO.slot 4 (by kernel_rfl)
          refine wp_yields (v := .pointer (some ⟨sb, 21, none⟩)) ?_ ⟨_, rfl, rfl, Below.refl _ _, hG⟩
          simp [slotOf] at h4
          simp [execOp, go_sem, h4]
        · intro a W hG hR hO hp
          have h33 : slotOf a 33 = .pointer (some ⟨sb, 21, none⟩) := hp.1
          have h26 : slotOf a 26 = vi (yk : Int) := hp.2.1
          refine wp_yields (v := .pointer (some ⟨sb, 21 + yk, none⟩)) ?_ ⟨_, rfl, rfl, Below.refl _ _, hG⟩
          simp [slotOf] at h33 h26
          simp [execOp, go_sem, h33, h26, hy5]
      · intro W hG hR
        rintro _ rfl _ rfl _ rfl _ rfl _ rfl _ rfl _ rfl _ rfl _ rfl
        change wpList _ _ _ _ _ _
        simp only [Act.put, List.setIfInBounds_toArray, List.set_cons_zero, List.set_cons_succ, List.drop_succ_cons, List.drop_zero]
        have hb := HB.out.next hG
        have cs := hb.sx.at (21 + yk) HP.out.2.2.2
        have fs := hb.sx.free (21 + yk)
        have HC := Lib.hid hb
        clear hG hR hb HB cp cx
        go_upto_region 6 with fail
        refine genQ (BdM w x sb rb xb ⟨s.n + 1, buildA x.d yk p.ns s.a 0, s.p.set yk pn⟩) (HC.out.turn (21 + yk) _ HSZ.out.1 HSZ.out.2.2.2.1 HSZ.out.2.2.2.2.1 (by rw [stC_set_p HP.out.2.2.1, HS1.out]; rfl)) ?_
        clear HC cs fs epn
        intro wv hb
        have hnn := HPO.out.nn
        have q3 := (HQ.out.2.below hb.nw HQ.out.2.lt).at 3 (v := .slice p.na p.ns.length p.nc) rfl
        have HB := Lib.hid hb
        clear hb
        go_wp2_with fail
        obtain ⟨na, hna⟩ : ∃ na, na = p.na := ⟨_, rfl⟩
        rw [← hna]
        have HNA := Lib.hid hna
        clear hna q3
        go_loopw [41] (fun s41 wr => ∃ k : Nat, k ≤ p.ns.length ∧ s41 = .int .i64 k ∧ BdM w x sb rb xb ⟨s.n + 1, buildA x.d yk p.ns s.a k, s.p.set yk pn⟩ wr) (fun s41 _ => p.ns.length - (intOf s41).toNat)
        case atStart => exact ⟨0, Nat.zero_le _, rfl, HB.out⟩
        case round =>
          obtain ⟨k, hk, rfl, hb⟩ := hrel
          clear HB
          by_cases hlt : k < p.ns.length
          · have hkn : (k : Int) < p.ns.length := by omega
            have hk20 : (k : Int) < 20 := by omega
            obtain ⟨n, hn⟩ := get_of_lt hlt
            obtain ⟨av, hav⟩ := get_of_lt (l := s.a) (k := k) (by rw [HS.out.1.a]; omega)
            have hab := HS.out.2.1 av (List.mem_of_getElem? hav)
            have hnd := HPO.out.ns n (List.mem_of_getElem? hn)
            simp only [ndB, inB, Bool.and_eq_true, decide_eq_true_eq] at hnd
            have hw := wdB_parts (HPO.out.ws x (List.mem_of_getElem? HX.out))
            have hyr := HPO.out.years
            obtain ⟨r, hrr⟩ := get_of_lt (l := x.d.adds) (k := n.slope.toNat) (by have := hw.2.2.2.2.1; omega)
            have hbr := endR_bd (hi := false) (hw.2.2.2.2.2 r (List.mem_of_getElem? hrr))
            have hcast : ((n.slope.toNat : Nat) : Int) = n.slope := by omega
            have hadb := addsN_bd (x := x.d) (built := (yk : Int)) (year := n.year) hbr.1 hbr.2 hw.2.2.1.1
            have HAD : Hid (∀ W, newer wr W → Calls Try.prog 79 #[wkV x, vi (yk : Int), vi n.slope, vi n.year, .func (.func 56) #[] #[]] W fun e w' => e = .returned (vi (addsN x.d yk n.year (endR false r))) ∧ newer W w') := Lib.hid fun W hW => by
              have h := adds_any false x (yk : Int) n.year n.slope.toNat r W hrr (((HQ.out.1.next hb.nw).next hW).ad x (List.mem_of_getElem? HX.out)) hw.2.2.1.1 hw.2.2.1.2 hbr.1 hbr.2 (by omega) (by omega) (by omega) (by omega)
              rw [hcast] at h
              exact h
            have hu : addU x.d yk n (iAt s.a k) = mnI n.due (av + addsN x.d yk n.year (endR false r)) := by
              unfold addU
              rw [iAt_of hav, rAt_of hrr]
              rfl
            obtain ⟨ad, had⟩ : ∃ ad, ad = addsN x.d yk n.year (endR false r) := ⟨_, rfl⟩
            rw [← had] at HAD hu hadb
            obtain ⟨su, hsu⟩ : ∃ su, su = av + ad := ⟨_, rfl⟩
            rw [← hsu] at hu
            obtain ⟨mi, hmi⟩ : ∃ mi, mi = mnI n.due su := ⟨_, rfl⟩
            rw [← hmi] at hu
            have esu : IntKind.i64.wrap (av + ad) = su := by rw [← hsu]; exact IntWalk.i64_in _ (by omega)
            have HMI := Lib.hid hmi
            have okk : SxOk ⟨s.n + 1, buildA x.d yk p.ns s.a k, s.p.set yk pn⟩ := ⟨by show (buildA _ _ _ _ _).length = 20; rw [buildA_len]; exact HS.out.1.a, by show (List.set _ _ _).length = 5; rw [List.length_set]; exact HS.out.1.p⟩
            have hav2 : (buildA x.d yk p.ns s.a k)[k]? = some av := by rw [buildA_far _ _ _ _ k k (Nat.le_refl _)]; exact hav
            have hnx : buildA x.d yk p.ns s.a (k + 1) = (buildA x.d yk p.ns s.a k).set k mi := by
              rw [← hu]
              conv => lhs; unfold buildA
              rw [hn]
            have HK := Lib.hid (And.intro okk (And.intro (stC_a (s := ⟨s.n + 1, buildA x.d yk p.ns s.a k, s.p.set yk pn⟩) okk hav2) hnx))
            obtain ⟨b3, o3, e3, _, c0, c1, c2⟩ := row3 (HQ.out.1.next hb.nw).ns hn
            have e4 := HNA.out.trans e3
            clear e3 HNA
            subst e4
            have HB0 := Lib.hid hb
            clear hb hn hav hab hnd hw hyr hrr hbr hcast hadb had hsu hmi hu okk hav2 hnx
            go_upto_region 9 with fail
            refine genQ (fun X => newer wr X ∧ Whole X wr.heap.size 89 #[vi n.slope, vi n.year, vi n.due]) ⟨newer_allocH _ _, Whole.made _ _ _⟩ ?_
            obtain ⟨nb, hnb⟩ : ∃ nb, nb = wr.heap.size := ⟨_, rfl⟩
            rw [← hnb]
            clear hnb c0 c1 c2
            rintro wv ⟨hn, hwx⟩
            have y0 := hwx.at 0 (v := vi n.slope) rfl
            have y1 := hwx.at 1 (v := vi n.year) rfl
            have y2 := hwx.at 2 (v := vi n.due) rfl
            have hb := HB0.out.next hn
            have ca := hb.sx.at (1 + k) HK.out.2.1
            have d0 := hb.xx.at 0 (v := vi x.d.price) rfl
            have d1 := hb.xx.at 1 (v := vi x.d.first) rfl
            have d2 := hb.xx.at 2 (v := vi x.d.last) rfl
            have d3 := hb.xx.at 3 (v := vi x.d.age) rfl
            have d4 := hb.xx.at 4 (v := vi x.d.village) rfl
            have d5 := hb.xx.at 5 (v := .slice x.a x.d.adds.length x.cp) rfl
            have HB := Lib.hid (And.intro hn hb)
            clear hn hwx hb HB0
            refine wp_words (by kernel_rfl) (region_told 18 (by kernel_rfl) (by kernel_rfl) (fun W => Below wv.heap.size wv W) newer (pickD [vIs (.int .i64 k), vIs (.pointer (some ⟨nb, 2, none⟩)), vIs (vi n.due), vIs (.int .i64 k), vIs (.pointer (some ⟨sb, 1, none⟩)), vIs (.pointer (some ⟨sb, 1 + k, none⟩)), vIs (vi av), vIs (wkV x), vIs (vi (yk : Int)), vIs (.pointer (some ⟨nb, 0, none⟩)), vIs (vi n.slope), vIs (.pointer (some ⟨nb, 1, none⟩)), vIs (vi n.year), vIs (vi ad), vIs (vi su), vIs (vi mi), vIs (.pointer (some ⟨sb, 1, none⟩)), vIs (.pointer (some ⟨sb, 1 + k, none⟩))]) (fun h k => newer_trans h k) (pickD_stable _ ⟨vIs_st, vIs_st, vIs_st, vIs_st, vIs_st, vIs_st, vIs_st, vIs_st, vIs_st, vIs_st, vIs_st, vIs_st, vIs_st, vIs_st, vIs_st, vIs_st, vIs_st, vIs_st, trivial⟩) (Below.refl _ wv).drew (Below.refl _ _) ?_ ?_)
            · refine ⟨?_, ?_, ?_, ?_, ?_, ?_, ?_, ?_, ?_, ?_, ?_, ?_, ?_, ?_, ?_, ?_, ?_, ?_, trivial⟩
              · intro a W hG hR hO hp
                have h8 := hO.slot 8 (by kernel_rfl)
                refine wp_yields (v := .int .i64 k) ?_ ⟨_, rfl, rfl, Below.refl _ _, hG⟩
                simp [slotOf] at h8
                simp [execOp, go_sem, h8]
              · intro a W hG hR hO hp
                have h9 := hO.slot 9 (by kernel_rfl)
                refine wp_yields (v := .pointer (some ⟨nb, 2, none⟩)) ?_ ⟨_, rfl, rfl, Below.refl _ _, hG⟩
                simp [slotOf] at h9
                simp [execOp, go_sem, h9]
              · intro a W hG hR hO hp
                have h47 : slotOf a 47 = .pointer (some ⟨nb, 2, none⟩) := hp.1
                have c0 := keep_cell y2 hG
                refine wp_yields (v := vi n.due) ?_ ⟨_, rfl, rfl, Below.refl _ _, hG⟩
                simp [slotOf] at h47
                simp [execOp, go_sem, h47, c0]
              · intro a W hG hR hO hp
                have h8 := hO.slot 8 (by kernel_rfl)
                refine wp_yields (v := .int .i64 k) ?_ ⟨_, rfl, rfl, Below.refl _ _, hG⟩
                simp [slotOf] at h8
                simp [execOp, go_sem, h8]
              · intro a W hG hR hO hp
                have h4 := hO.slot 4 (by kernel_rfl)
                refine wp_yields (v := .pointer (some ⟨sb, 1, none⟩)) ?_ ⟨_, rfl, rfl, Below.refl _ _, hG⟩
                simp [slotOf] at h4
                simp [execOp, go_sem, h4]
              · intro a W hG hR hO hp
                have h50 : slotOf a 50 = .pointer (some ⟨sb, 1, none⟩) := hp.1
                have h49 : slotOf a 49 = .int .i64 k := hp.2.1
                refine wp_yields (v := .pointer (some ⟨sb, 1 + k, none⟩)) ?_ ⟨_, rfl, rfl, Below.refl _ _, hG⟩
                simp [slotOf] at h50 h49
                simp [execOp, go_sem, h50, h49, hk20]
              · intro a W hG hR hO hp
                have h51 : slotOf a 51 = .pointer (some ⟨sb, 1 + k, none⟩) := hp.1
                have c0 := keep_cell ca hG
                refine wp_yields (v := vi av) ?_ ⟨_, rfl, rfl, Below.refl _ _, hG⟩
                simp [slotOf] at h51
                simp [execOp, go_sem, h51, c0]
              · intro a W hG hR hO hp
                have h7 := hO.slot 7 (by kernel_rfl)
                have c0 := keep_cell d0 hG
                have c1 := keep_cell d1 hG
                have c2 := keep_cell d2 hG
                have c3 := keep_cell d3 hG
                have c4 := keep_cell d4 hG
                have c5 := keep_cell d5 hG
                refine wp_yields (v := wkV x) ?_ ⟨_, rfl, rfl, Below.refl _ _, hG⟩
                simp [slotOf] at h7
                simp [execOp, go_sem, h7, c0, c1, c2, c3, c4, c5]
              · intro a W hG hR hO hp
                have h2 := hO.slot 2 (by kernel_rfl)
                refine wp_yields (v := vi (yk : Int)) ?_ ⟨_, rfl, rfl, Below.refl _ _, hG⟩
                simp [slotOf] at h2
                simp [execOp, go_sem, h2]
              · intro a W hG hR hO hp
                have h9 := hO.slot 9 (by kernel_rfl)
                refine wp_yields (v := .pointer (some ⟨nb, 0, none⟩)) ?_ ⟨_, rfl, rfl, Below.refl _ _, hG⟩
                simp [slotOf] at h9
                simp [execOp, go_sem, h9]
              · intro a W hG hR hO hp
                have h55 : slotOf a 55 = .pointer (some ⟨nb, 0, none⟩) := hp.1
                have c0 := keep_cell y0 hG
                refine wp_yields (v := vi n.slope) ?_ ⟨_, rfl, rfl, Below.refl _ _, hG⟩
                simp [slotOf] at h55
                simp [execOp, go_sem, h55, c0]
              · intro a W hG hR hO hp
                have h9 := hO.slot 9 (by kernel_rfl)
                refine wp_yields (v := .pointer (some ⟨nb, 1, none⟩)) ?_ ⟨_, rfl, rfl, Below.refl _ _, hG⟩
                simp [slotOf] at h9
                simp [execOp, go_sem, h9]
              · intro a W hG hR hO hp
                have h57 : slotOf a 57 = .pointer (some ⟨nb, 1, none⟩) := hp.1
                have c0 := keep_cell y1 hG
                refine wp_yields (v := vi n.year) ?_ ⟨_, rfl, rfl, Below.refl _ _, hG⟩
                simp [slotOf] at h57
                simp [execOp, go_sem, h57, c0]
              · intro a W hG hR hO hp
                have h53 : slotOf a 53 = wkV x := hp.1
                have h54 : slotOf a 54 = vi (yk : Int) := hp.2.1
                have h56 : slotOf a 56 = vi n.slope := hp.2.2.1
                have h58 : slotOf a 58 = vi n.year := hp.2.2.2.1
                refine wp_enters (f := 79) (args := #[wkV x, vi (yk : Int), vi n.slope, vi n.year, .func (.func 56) #[] #[]]) ?_ ((HAD.out W (newer_trans HB.out.1 hG)).mono ?_)
                · simp [slotOf] at h53 h54 h56 h58
                  simp [go_sem, h53, h54, h56, h58]
                · rintro e w' ⟨rfl, hb⟩
                  exact ⟨_, rfl, _, rfl, rfl, hb, below_next hG hb⟩
              · intro a W hG hR hO hp
                have h52 : slotOf a 52 = vi av := hp.1
                have h59 : slotOf a 59 = vi ad := hp.2.1
                refine wp_yields (v := vi su) ?_ ⟨_, rfl, rfl, Below.refl _ _, hG⟩
                simp [slotOf] at h52 h59
                simp [execOp, go_sem, h52, h59, esu]
              · intro a W hG hR hO hp
                have h48 : slotOf a 48 = vi n.due := hp.1
                have h60 : slotOf a 60 = vi su := hp.2.1
                refine wp_yields (v := vi mi) ?_ ⟨_, rfl, rfl, Below.refl _ _, hG⟩
                simp [slotOf] at h48 h60
                simp [go_sem, h48, h60, HMI.out, mnI]
              · intro a W hG hR hO hp
                have h4 := hO.slot 4 (by kernel_rfl)
                refine wp_yields (v := .pointer (some ⟨sb, 1, none⟩)) ?_ ⟨_, rfl, rfl, Below.refl _ _, hG⟩
                simp [slotOf] at h4
                simp [execOp, go_sem, h4]
              · intro a W hG hR hO hp
                have h62 : slotOf a 62 = .pointer (some ⟨sb, 1, none⟩) := hp.1
                have h46 : slotOf a 46 = .int .i64 k := hp.2.1
                refine wp_yields (v := .pointer (some ⟨sb, 1 + k, none⟩)) ?_ ⟨_, rfl, rfl, Below.refl _ _, hG⟩
                simp [slotOf] at h62 h46
                simp [execOp, go_sem, h62, h46, hk20]
            · intro W hG hR
              rintro _ rfl _ rfl _ rfl _ rfl _ rfl _ rfl _ rfl _ rfl _ rfl _ rfl _ rfl _ rfl _ rfl _ rfl _ rfl _ rfl _ rfl _ rfl
              change wpList _ _ _ _ _ _
              simp only [Act.put, List.setIfInBounds_toArray, List.set_cons_zero, List.set_cons_succ, List.drop_succ_cons, List.drop_zero]
              have hb := HB.out.2.next hG
              have cs := hb.sx.at (1 + k) HK.out.2.1
              have fs := hb.sx.free (1 + k)
              have HC := Lib.hid hb
              clear hG hR hb HB y0 y1 y2 ca d0 d1 d2 d3 d4 d5
              go_upto_region 10 with fail
              refine genQ (BdM w x sb rb xb ⟨s.n + 1, buildA x.d yk p.ns s.a (k + 1), s.p.set yk pn⟩) (HC.out.turn (1 + k) _ HSZ.out.1 HSZ.out.2.2.2.1 HSZ.out.2.2.2.2.1 (by rw [stC_set_a HK.out.1 (by omega), HK.out.2.2])) ?_
              clear HC cs fs esu
              intro wx hb
              go_wp2_with fail
              go_roundw
              case rel => exact ⟨k + 1, by omega, by go_num, hb⟩
              case measure => simp [intOf]; omega
          · obtain rfl : k = p.ns.length := by omega
            have hkn : ¬ ((p.ns.length : Int) < p.ns.length) := by omega
            obtain ⟨s2, hs2⟩ : ∃ s2 : Sx, s2 = ⟨s.n + 1, buildA x.d yk p.ns s.a p.ns.length, s.p.set yk pn⟩ := ⟨_, rfl⟩
            have HBS : Hid (buildS x.d p.ns s yk = s2) := Lib.hid (by
              unfold buildS
              rw [if_neg HY1.out, hs2, HP.out.2.1, Int.toNat_natCast, iAt_of HP.out.1])
            rw [← hs2] at hb
            clear hs2
            have HE := Lib.hid hb
            clear hb
            go_wp2_with (first | (refine wpList_load_s (s := s2) rfl (.tmp 4) rfl sb rfl HE.out.sx ?_) | (refine wpList_store_s (s := s2) rfl (.tmp 6) (.tmp 65) rfl rb rfl rfl HE.out.rx rfl ?_))
            exact bodyPost_ret (v := .agg (stC s2)) (results_cell_row (fn := Try.f83) Try.results83 _ _ rb 123 (stC s2) (0, 0) _ rfl (HE.out.rx.setRow (stC s2)) Try.underlying123 rfl (by rw [Try.info123s]; rfl)) rfl ⟨by rw [HBS.out], below_setRow HE.out.nw HSZ.out.2.1 _⟩
end Go.Proofs.Ytpnpnfjhjjdmgaa
