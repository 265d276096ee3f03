/- What the last text of this chain needs: AI, BF, BK, BD, AJ, AH2, BL, Th2, Th1, BG, BP, Th3. -/
import Derived.Test.YtcdhhfgpdokkoaaZH08
namespace Go.Proofs.Ytcdhhfgpdokkoaa
section
open Go.ChangeShapes Go.WideShapes Go.ChangeAt Go.RowKit Go.Deep
theorem Try.own : ownKnob Try.prog.godebug = none := by kernel_rfl
theorem Try.laidOut : laidOutB Try.prog = true := by kernel_rfl
theorem Try.cells3 : Try.prog.cellsOf 3 = 1 := by kernel_rfl
theorem Try.cells36 : Try.prog.cellsOf 36 = 1 := by kernel_rfl
theorem Try.cells38 : Try.prog.cellsOf 38 = 2 := by kernel_rfl
theorem Try.cells81 : Try.prog.cellsOf 81 = 2 := by kernel_rfl
theorem Try.cells80 : Try.prog.cellsOf 80 = 1 := by kernel_rfl
theorem Try.cells83 : Try.prog.cellsOf 83 = 8 := by kernel_rfl
theorem len8 {α : Type} {l : List α} (h : l.length = 8) : ∃ a b c d e f g i, l = [a, b, c, d, e, f, g, i] := by
 match l, h with
 | [a, b, c, d, e, f, g, i], _ => exact ⟨a, b, c, d, e, f, g, i, rfl⟩
theorem len5 {α : Type} {l : List α} (h : l.length = 5) : ∃ a b c d e, l = [a, b, c, d, e] := by
 match l, h with
 | [a, b, c, d, e], _ => exact ⟨a, b, c, d, e, rfl⟩
section
variable {H : Type} {enc : TypeId × Value -> H} {w : World} {base : Nat} {spare : Nat -> Bool} {held : Bool} {fuel : Nat} {cs : List Value} {x : DataW H × List MemPlace}
theorem open_rowP {α : Type} {ec : α -> List Value} {Pr : α -> Prop} {t e s : Nat} (ht : Try.prog.underlying t = some (.slice e)) (hC : Try.prog.cellsOf e = s) (he : ∀ y, (ec y).length = s) (hs : 0 < s)
  (hel : ∀ {fuel : Nat} {cs : List Value} {x : DataW H × List MemPlace}, DataW.trod enc Try.prog w base spare held fuel e cs = some x -> ∃ y, cs = ec y /\ Pr y)
  (h : DataW.trod enc Try.prog w base spare held fuel t cs = some x) : ∃ (A : Option Addr) (l : List α) (cp : Nat), cs = [.slice A l.length cp] /\ l.length <= maxLen /\ Row ec s w w.heap.size A l /\ ∀ y ∈ l, Pr y := by
 rcases open_slice ht h with ⟨rfl, _⟩ | ⟨a, len, cap, m, n, D, Pl, rfl, hb, hl, hm, hmm, _, hi⟩
 ·exact ⟨none, [], 0, rfl, Nat.zero_le _, Row.nil _, fun y hy => by simp at hy⟩
 ·have hlm : len <= m := by rw [hmm]; split <;> omega
  obtain ⟨b, off, sp⟩ := a
  rcases Nat.eq_zero_or_pos len with rfl | hpos
  ·exact ⟨_, [], cap, rfl, Nat.zero_le _, Row.nil _, fun y hy => by simp at hy⟩
  ·have hex : ∀ i, ∃ y : α, Pr y /\ (i < len -> w.cells? base ((⟨b, off, sp⟩ : Addr).add (i * s)) s = some (ec y)) := by
    intro i
    by_cases hi2 : i < len
    ·obtain ⟨cs', hc, ht'⟩ := hi i (by omega)
     obtain ⟨y, rfl, hpy⟩ := hel ht'
     rw [hC] at hc
     exact ⟨y, hpy, fun _ => hc⟩
    ·obtain ⟨cs', hc, ht'⟩ := hi 0 (by omega)
     obtain ⟨y, rfl, hpy⟩ := hel ht'
     exact ⟨y, hpy, fun h => absurd h hi2⟩
   obtain ⟨f, hff⟩ := Classical.axiomOfChoice hex
   have hf := fun i => (hff i).2
   have hcell : ∀ i, i < len -> ∀ j v, (ec (f i))[j]? = some v -> w.cell? (((⟨b, off, sp⟩ : Addr).add (i * s)).add j) = some v := by
    intro i hi2 j v hv
    obtain ⟨_, _, h3⟩ := World.cells?_some (hf i hi2)
    have hj : j < s := by rw [<- he (f i)]; exact (List.getElem?_eq_some_iff.1 hv).1
    rw [h3 j hj, hv]
   have hsp : sp = none := by
    obtain ⟨u, hv⟩ := get_of_lt (l := ec (f 0)) (k := 0) (by rw [he]; exact hs)
    have := hcell 0 hpos 0 _ hv
    simp only [Nat.zero_mul, Addr.add, if_true] at this
    unfold World.cell? at this
    cases sp with
    | none => rfl
    | some q =>
     exfalso
     dsimp only at this
     split at this
     ·simp at this
     ·cases this
   subst hsp
   refine ⟨_, (List.range len).map f, cap, by rw [List.length_map, List.length_range], by rw [List.length_map, List.length_range]; exact Nat.le_trans hl hm, fun _ => ⟨b, off, rfl, ?_, fun k x hk j v hv => ?_⟩, fun y hy => ?_⟩
   ·obtain ⟨u, hv⟩ := get_of_lt (l := ec (f 0)) (k := 0) (by rw [he]; exact hs)
    have := World.block_lt_of_cell? w _ (hcell 0 hpos 0 _ hv)
    simpa [Addr.add] using this
   ·rw [List.getElem?_map] at hk
    obtain ⟨i, hi3, rfl⟩ := Option.map_eq_some_iff.1 hk
    obtain ⟨hkl, hki⟩ := List.getElem?_eq_some_iff.1 hi3
    rw [List.getElem_range] at hki
    subst hki
    have := hcell k (by simpa using hkl) j v hv
    rw [Go.Deep.add_add, add_row] at this
    rw [Nat.add_assoc]
    exact this
   ·obtain ⟨i, _, rfl⟩ := List.mem_map.1 hy
    exact (hff i).1
theorem rg_cells (h : DataW.trod enc Try.prog w base spare held fuel 81 cs = some x) : ∃ y : Rg, cs = rgL y /\ True := by
 obtain ⟨xs, m, _, _, hlen, hxl, hg⟩ := DataW.trod_struct Try.underlying81 h
 rw [Try.cells81] at hlen
 obtain ⟨c0, c1, rfl⟩ := len2 hlen
 obtain ⟨y0, y1, rfl⟩ := len2 (show xs.length = 2 from hxl)
 have h0 := hg 0 _ rfl
 have h1 := hg 1 _ rfl
 simp [Try.cells3] at h0 h1
 obtain ⟨a, ha, _⟩ := DataW.trod_int Try.underlying3 h0
 obtain ⟨b, hb, _⟩ := DataW.trod_int Try.underlying3 h1
 injection ha with ha
 injection hb with hb
 exact ⟨⟨a, b⟩, by rw [ha, hb], trivial⟩
theorem bd_cells (h : DataW.trod enc Try.prog w base spare held fuel 83 cs = some x) : ∃ y : Bd, cs = bdL y /\ True := by
 obtain ⟨xs, m, _, _, hlen, hxl, hg⟩ := DataW.trod_struct Try.underlying83 h
 rw [Try.cells83] at hlen
 obtain ⟨c0, c1, c2, c3, c4, c5, c6, c7, rfl⟩ := len8 hlen
 obtain ⟨y0, y1, y2, y3, y4, rfl⟩ := len5 (show xs.length = 5 from hxl)
 have h0 := hg 0 _ rfl
 have h1 := hg 1 _ rfl
 have h2 := hg 2 _ rfl
 have h3 := hg 3 _ rfl
 have h4 := hg 4 _ rfl
 simp [Try.cells3, Try.cells81] at h0 h1 h2 h3 h4
 obtain ⟨a, ha, _⟩ := DataW.trod_int Try.underlying3 h0
 obtain ⟨b, hb, _⟩ := DataW.trod_int Try.underlying3 h1
 obtain ⟨r2, hr2, _⟩ := rg_cells h2
 obtain ⟨r3, hr3, _⟩ := rg_cells h3
 obtain ⟨r4, hr4, _⟩ := rg_cells h4
 injection ha with ha
 injection hb with hb
 simp only [rgL, List.cons.injEq, and_true] at hr2 hr3 hr4
 exact ⟨⟨a, b, r2, r3, r4⟩, by rw [ha, hb, hr2.1, hr2.2, hr3.1, hr3.2, hr4.1, hr4.2], trivial⟩
theorem col_cells (h : DataW.trod enc Try.prog w base spare held fuel 80 cs = some x) : ∃ y : Cl, cs = clL y /\ (y.beds.length <= maxLen /\ Row bdL 8 w w.heap.size y.a y.beds) := by
 obtain ⟨A, l, cp, e, hl, hr, _⟩ := open_rowP (ec := bdL) Try.underlying80 Try.cells83 (fun _ => rfl) (by omega) bd_cells h
 exact ⟨⟨l, A, cp⟩, e, hl, hr⟩
theorem slope_open (h : DataW.trod enc Try.prog w base spare held fuel 38 cs = some x) : ∃ s : Sm, cs = (smC s).toList /\ SmOk s w := by
 obtain ⟨xs, m, _, _, hlen, hxl, hg⟩ := DataW.trod_struct Try.underlying38 h
 rw [Try.cells38] at hlen
 obtain ⟨c0, c1, rfl⟩ := len2 hlen
 obtain ⟨y0, y1, rfl⟩ := len2 (show xs.length = 2 from hxl)
 have h0 := hg 0 _ rfl
 have h1 := hg 1 _ rfl
 simp [Try.cells3, Try.cells36] at h0 h1
 obtain ⟨A, l, cp, e0, _, hr, hc⟩ := open_rowP (ec := clL) Try.underlying36 Try.cells80 (fun _ => rfl) (by omega) col_cells h0
 obtain ⟨a, e1, _⟩ := DataW.trod_int Try.underlying3 h1
 injection e0 with e0
 injection e1 with e1
 exact ⟨⟨l, A, cp, a⟩, by rw [e0, e1], ⟨hr, fun y hy => (hc y hy).2⟩⟩
@[go_sem] theorem run_field42 (a b : Value) (w : World) : Sem.run Try.prog (Instr.field 81 (.agg #[a, b]) 0) w = .ok a w := by
 simp [Instr.field, asAgg, part, go_sem]
end
end

section
open Go.ChangeShapes Go.WideShapes Go.ChangeAt Go.RowKit Go.Shelf Go.Deep
theorem Try.cells5 : Try.prog.cellsOf 5 = 1 := by kernel_rfl
theorem Try.cells29 : Try.prog.cellsOf 29 = 1 := by kernel_rfl
section
variable {H : Type} {enc : TypeId × Value -> H} {w : World} {base : Nat} {spare : Nat -> Bool} {held : Bool} {fuel : Nat} {cs : List Value} {x : DataW H × List MemPlace}
theorem byte_cells (h : DataW.trod enc Try.prog w base spare held fuel 5 cs = some x) : ∃ y : Byt, cs = byL y /\ True := by
 obtain ⟨z, e, _, hw⟩ := DataW.trod_int Try.underlying5 h
 have hb : 0 <= z /\ z <= 255 := by
  simp [Lit.wf] at hw
  exact hw
 exact ⟨⟨z, hb.1, hb.2⟩, e, trivial⟩
theorem half_cells (h : DataW.trod enc Try.prog w base spare held fuel 29 cs = some x) : ∃ y : Hlf, cs = hwL y /\ True := by
 obtain ⟨z, e, _, hw⟩ := DataW.trod_int Try.underlying29 h
 have hb : 0 <= z /\ z <= 65535 := by
  simp [Lit.wf] at hw
  exact hw
 exact ⟨⟨z, hb.1, hb.2⟩, e, trivial⟩
theorem bytes_open (h : DataW.trod enc Try.prog w base spare held fuel 30 cs = some x) : ∃ (D : Option Addr) (l : List Byt) (dp : Nat), cs = [.slice D l.length dp] /\ l.length <= maxLen /\ Row byL 1 w w.heap.size D l := by
 obtain ⟨A, l, cp, e, hl, hr, _⟩ := open_rowP (ec := byL) Try.underlying30 Try.cells5 (fun _ => rfl) (by omega) byte_cells h
 exact ⟨A, l, cp, e, hl, hr⟩
theorem halves_open (h : DataW.trod enc Try.prog w base spare held fuel 31 cs = some x) : ∃ (D : Option Addr) (l : List Hlf) (dp : Nat), cs = [.slice D l.length dp] /\ l.length <= maxLen /\ Row hwL 1 w w.heap.size D l := by
 obtain ⟨A, l, cp, e, hl, hr, _⟩ := open_rowP (ec := hwL) Try.underlying31 Try.cells29 (fun _ => rfl) (by omega) half_cells h
 exact ⟨A, l, cp, e, hl, hr⟩
end
set_option maxRecDepth 100000 in
set_option maxHeartbeats 1000000 in
theorem word_any (ws : List Byt) (A : Option Addr) (c wb i : Nat) (w : World) (hw : Whole w wb 30 #[.slice A ws.length c]) (hr : Row byL 1 w w.heap.size A ws) (hi : i <= 100000000) : Calls Try.prog 31 #[vi i, .pointer (some ⟨wb, 0, none⟩)] w fun e w' => ∃ n : Nat, e = .returned (vi n) /\ n <= 255 /\ newer w w' := by
 have c0 := hw.at 0 rfl
 by_cases hbe : ws = []
 ·subst hbe
  clear hr
  go_enter Try.func31, Try.ntmps31
  go_wp2_with fail
  go_ret
  exact ⟨0, rfl, by omega, newer_refl _⟩
 ·have hl0 : 0 < ws.length := List.length_pos_iff.2 hbe
  have hbn : ¬ (ws = []) := hbe
  obtain ⟨j, hj⟩ : ∃ j, j = i % ws.length := ⟨_, rfl⟩
  have hjl : j < ws.length := by rw [hj]; exact Nat.mod_lt _ hl0
  have hjn : (j : Int) < ws.length := by omega
  have ej : (i : Int).tmod ws.length = j := by rw [hj, Int.tmod_eq_emod_of_nonneg (by omega)]; exact (Int.natCast_emod _ _).symm
  obtain ⟨y, hy⟩ := get_of_lt hjl
  obtain ⟨ab, ao, rfl, _, cb⟩ := row_byte hr hy
  have hb0 := y.lo
  have hb1 := y.hi
  obtain ⟨yn, hyn⟩ : ∃ yn : Nat, y.n = yn := ⟨y.n.toNat, by omega⟩
  rw [hyn] at cb hb0 hb1
  have e31 : IntKind.i64.wrap (yn : Int) = yn := IntWalk.i64_in _ (by omega)
  have hcz : ¬ ((ws.length : Int) = 0) := by omega
  have HY := Lib.hid (And.intro hb0 hb1)
  clear hr hy hj hw hb0 hb1 hbe hyn
  go_enter Try.func31, Try.ntmps31
  go_upto_region 3 with fail
  refine wp_words (by kernel_rfl) (region_told 8 (by kernel_rfl) (by kernel_rfl) (fun W => Below w.heap.size w W) newer (pickD [vIs (.slice (some ⟨ab, ao, none⟩) ws.length c), vIs (.int .i64 i), vIs (.slice (some ⟨ab, ao, none⟩) ws.length c), vIs (.int .i64 ws.length), vIs (.int .i64 j), vIs (.pointer (some ⟨ab, ao + j, none⟩)), vIs (.int .u8 (yn : Int)), vIs (vi yn)]) (fun h k => newer_trans h k) (pickD_stable _ ⟨vIs_st, vIs_st, vIs_st, vIs_st, vIs_st, vIs_st, vIs_st, vIs_st, trivial⟩) (Below.refl _ w).drew (Below.refl _ _) ?_ ?_)
  ·refine ⟨?_, ?_, ?_, ?_, ?_, ?_, ?_, ?_, trivial⟩
   ·intro a W hG hR hO hp; have h1 := hO.slot 1 (by kernel_rfl); have c0 := keep_cell c0 hG; refine wp_yields (v := .slice (some ⟨ab, ao, none⟩) ws.length c) ?_ ⟨_, rfl, rfl, Below.refl _ _, hG⟩; simp [slotOf] at h1; simp [execOp, go_sem, h1, c0]
   ·intro a W hG hR hO hp; have h0 := hO.slot 0 (by kernel_rfl); refine wp_yields (v := .int .i64 i) ?_ ⟨_, rfl, rfl, Below.refl _ _, hG⟩; simp [slotOf] at h0; simp [execOp, go_sem, h0]
   ·intro a W hG hR hO hp; have h1 := hO.slot 1 (by kernel_rfl); have c0 := keep_cell c0 hG; refine wp_yields (v := .slice (some ⟨ab, ao, none⟩) ws.length c) ?_ ⟨_, rfl, rfl, Below.refl _ _, hG⟩; simp [slotOf] at h1; simp [execOp, go_sem, h1, c0]
   ·intro a W hG hR hO hp; have h9 : slotOf a 9 = .slice (some ⟨ab, ao, none⟩) ws.length c := hp.1; refine wp_yields (v := .int .i64 ws.length) ?_ ⟨_, rfl, rfl, Below.refl _ _, hG⟩; simp [slotOf] at h9; simp [go_sem, h9]
   ·intro a W hG hR hO hp; have h8 : slotOf a 8 = .int .i64 i := hp.1; have h10 : slotOf a 10 = .int .i64 ws.length := hp.2.1; refine wp_yields (v := .int .i64 j) ?_ ⟨_, rfl, rfl, Below.refl _ _, hG⟩; simp [slotOf] at h8 h10; simp [execOp, go_sem, h8, h10, ej, hbn]
   ·intro a W hG hR hO hp; have h7 : slotOf a 7 = .slice (some ⟨ab, ao, none⟩) ws.length c := hp.1; have h11 : slotOf a 11 = .int .i64 j := hp.2.1; refine wp_yields (v := .pointer (some ⟨ab, ao + j, none⟩)) ?_ ⟨_, rfl, rfl, Below.refl _ _, hG⟩; simp [slotOf] at h7 h11; simp [execOp, go_sem, h7, h11, hjn]
   ·intro a W hG hR hO hp; have h12 : slotOf a 12 = .pointer (some ⟨ab, ao + j, none⟩) := hp.1; have c0 := keep_cell cb hG; refine wp_yields (v := .int .u8 (yn : Int)) ?_ ⟨_, rfl, rfl, Below.refl _ _, hG⟩; simp [slotOf] at h12; simp [execOp, go_sem, h12, c0]
   ·intro a W hG hR hO hp; have h13 : slotOf a 13 = .int .u8 (yn : Int) := hp.1; refine wp_yields (v := vi yn) ?_ ⟨_, rfl, rfl, Below.refl _ _, hG⟩; simp [slotOf] at h13; simp [execOp, go_sem, h13, e31]
  ·intro wz hG hR
   rintro _ rfl _ rfl _ rfl _ rfl _ rfl _ rfl _ rfl _ rfl
   change wpList _ _ _ _ _ _
   simp only [Act.put, List.setIfInBounds_toArray, List.set_cons_zero, List.set_cons_succ, List.drop_succ_cons, List.drop_zero]
   have HE := Lib.hid hG
   clear hG hR
   go_wp2_with fail
   go_ret
   exact ⟨yn, rfl, by have := HY.out; omega, HE.out⟩
set_option maxRecDepth 100000 in
set_option maxHeartbeats 1000000 in
theorem pick_any (r : Rg) (x : Int) (w : World) (x0 : 0 <= x) (x1 : x <= 65535) (h0 : 0 <= r.lo) (h1 : r.lo <= r.hi) (h2 : r.hi <= 100000) : Calls Try.prog 38 #[rgV r, .int .u16 x] w fun e w' => ∃ v, e = .returned (vi v) /\ r.lo <= v /\ v <= r.hi /\ newer w w' := by
 have e8 : IntKind.i64.wrap x = x := IntWalk.i64_in _ (by omega)
 obtain ⟨dd, hdd⟩ : ∃ dd, dd = r.hi - r.lo := ⟨_, rfl⟩
 have e13 : IntKind.i64.wrap (r.hi - r.lo) = dd := by rw [<- hdd]; exact IntWalk.i64_in _ (by omega)
 obtain ⟨mm, hmm⟩ : ∃ mm, mm = dd + 1 := ⟨_, rfl⟩
 have e14 : IntKind.i64.wrap (dd + 1) = mm := by rw [<- hmm]; exact IntWalk.i64_in _ (by omega)
 have hm0 : ¬ (mm = 0) := by omega
 obtain ⟨kc, hkc⟩ : ∃ kc, kc = x % mm := ⟨_, rfl⟩
 have e15 : x.tmod mm = kc := by rw [hkc]; exact Int.tmod_eq_emod_of_nonneg x0
 have hk1 : 0 <= kc /\ kc < mm := by rw [hkc]; exact ⟨Int.emod_nonneg _ hm0, Int.emod_lt_of_pos _ (by omega)⟩
 obtain ⟨vv, hvv⟩ : ∃ vv, vv = r.lo + kc := ⟨_, rfl⟩
 have e16 : IntKind.i64.wrap (r.lo + kc) = vv := by rw [<- hvv]; exact IntWalk.i64_in _ (by omega)
 have HV := Lib.hid (show r.lo <= vv /\ vv <= r.hi by omega)
 have H0 := Lib.hid (And.intro (newer_allocH w (.cells #[vi r.lo, vi r.hi] 81)) (Whole.made w 81 #[vi r.lo, vi r.hi]))
 clear x0 x1
 have x0 := H0.out.2.at 0 (v := vi r.lo) rfl
 have x1 := H0.out.2.at 1 (v := vi r.hi) rfl
 clear h0 h1 h2 hdd hmm hkc hk1 hvv
 go_enter Try.func38, Try.ntmps38
 go_upto_region 1 with fail
 refine wp_words (by kernel_rfl) (region_told 12 (by kernel_rfl) (by kernel_rfl) (fun W => Below (w.alloc (.cells #[vi r.lo, vi r.hi] 81)).heap.size (w.alloc (.cells #[vi r.lo, vi r.hi] 81)) W) newer (pickD [vIs (.pointer (some ⟨w.heap.size, 0, none⟩)), vIs (vi r.lo), vIs (.int .u16 x), vIs (vi x), vIs (.pointer (some ⟨w.heap.size, 1, none⟩)), vIs (vi r.hi), vIs (.pointer (some ⟨w.heap.size, 0, none⟩)), vIs (vi r.lo), vIs (vi dd), vIs (vi mm), vIs (vi kc), vIs (vi vv)]) (fun h k => newer_trans h k) (pickD_stable _ ⟨vIs_st, vIs_st, vIs_st, vIs_st, vIs_st, vIs_st, vIs_st, vIs_st, vIs_st, vIs_st, vIs_st, vIs_st, trivial⟩) (Below.refl _ (w.alloc (.cells #[vi r.lo, vi r.hi] 81))).drew (Below.refl _ _) ?_ ?_)
 ·refine ⟨?_, ?_, ?_, ?_, ?_, ?_, ?_, ?_, ?_, ?_, ?_, ?_, trivial⟩
  ·intro a W hG hR hO hp; have h2 := hO.slot 2 (by kernel_rfl); refine wp_yields (v := .pointer (some ⟨w.heap.size, 0, none⟩)) ?_ ⟨_, rfl, rfl, Below.refl _ _, hG⟩; simp [slotOf] at h2; simp [execOp, go_sem, h2]
  ·intro a W hG hR hO hp; have h5 : slotOf a 5 = .pointer (some ⟨w.heap.size, 0, none⟩) := hp.1; have c0 := keep_cell x0 hG; refine wp_yields (v := vi r.lo) ?_ ⟨_, rfl, rfl, Below.refl _ _, hG⟩; simp [slotOf] at h5; simp [execOp, go_sem, h5, c0]
  ·intro a W hG hR hO hp; have h1 := hO.slot 1 (by kernel_rfl); refine wp_yields (v := .int .u16 x) ?_ ⟨_, rfl, rfl, Below.refl _ _, hG⟩; simp [slotOf] at h1; simp [execOp, go_sem, h1]
  ·intro a W hG hR hO hp; have h7 : slotOf a 7 = .int .u16 x := hp.1; refine wp_yields (v := vi x) ?_ ⟨_, rfl, rfl, Below.refl _ _, hG⟩; simp [slotOf] at h7; simp [execOp, go_sem, h7, e8]
  ·intro a W hG hR hO hp; have h2 := hO.slot 2 (by kernel_rfl); refine wp_yields (v := .pointer (some ⟨w.heap.size, 1, none⟩)) ?_ ⟨_, rfl, rfl, Below.refl _ _, hG⟩; simp [slotOf] at h2; simp [execOp, go_sem, h2]
  ·intro a W hG hR hO hp; have h9 : slotOf a 9 = .pointer (some ⟨w.heap.size, 1, none⟩) := hp.1; have c0 := keep_cell x1 hG; refine wp_yields (v := vi r.hi) ?_ ⟨_, rfl, rfl, Below.refl _ _, hG⟩; simp [slotOf] at h9; simp [execOp, go_sem, h9, c0]
  ·intro a W hG hR hO hp; have h2 := hO.slot 2 (by kernel_rfl); refine wp_yields (v := .pointer (some ⟨w.heap.size, 0, none⟩)) ?_ ⟨_, rfl, rfl, Below.refl _ _, hG⟩; simp [slotOf] at h2; simp [execOp, go_sem, h2]
  ·intro a W hG hR hO hp; have h11 : slotOf a 11 = .pointer (some ⟨w.heap.size, 0, none⟩) := hp.1; have c0 := keep_cell x0 hG; refine wp_yields (v := vi r.lo) ?_ ⟨_, rfl, rfl, Below.refl _ _, hG⟩; simp [slotOf] at h11; simp [execOp, go_sem, h11, c0]
  ·intro a W hG hR hO hp; have h10 : slotOf a 10 = vi r.hi := hp.1; have h12 : slotOf a 12 = vi r.lo := hp.2.1; refine wp_yields (v := vi dd) ?_ ⟨_, rfl, rfl, Below.refl _ _, hG⟩; simp [slotOf] at h10 h12; simp [execOp, go_sem, h10, h12, e13]
  ·intro a W hG hR hO hp; have h13 : slotOf a 13 = vi dd := hp.1; refine wp_yields (v := vi mm) ?_ ⟨_, rfl, rfl, Below.refl _ _, hG⟩; simp [slotOf] at h13; simp [execOp, go_sem, h13, e14]
  ·intro a W hG hR hO hp; have h8 : slotOf a 8 = vi x := hp.1; have h14 : slotOf a 14 = vi mm := hp.2.1; refine wp_yields (v := vi kc) ?_ ⟨_, rfl, rfl, Below.refl _ _, hG⟩; simp [slotOf] at h8 h14; simp [execOp, go_sem, h8, h14, e15, hm0]
  ·intro a W hG hR hO hp; have h6 : slotOf a 6 = vi r.lo := hp.1; have h15 : slotOf a 15 = vi kc := hp.2.1; refine wp_yields (v := vi vv) ?_ ⟨_, rfl, rfl, Below.refl _ _, hG⟩; simp [slotOf] at h6 h15; simp [execOp, go_sem, h6, h15, e16]
 ·intro wz hG hR
  rintro _ rfl _ rfl _ rfl _ rfl _ rfl _ rfl _ rfl _ rfl _ rfl _ rfl _ rfl _ rfl
  change wpList _ _ _ _ _ _
  simp only [Act.put, List.setIfInBounds_toArray, List.set_cons_zero, List.set_cons_succ, List.drop_succ_cons, List.drop_zero]
  have HE := Lib.hid (newer_trans H0.out.1 hG)
  clear hG hR
  go_wp2_with fail
  go_ret
  exact ⟨vv, rfl, HV.out.1, HV.out.2, HE.out⟩
end

section
open Go.RowKit Go.Shelf Go.Deep
def w3C (f : Nat -> Int) : Array Value := #[.int .u16 (f 0), .int .u16 (f 1), .int .u16 (f 2)]
theorem w3_set (f : Nat -> Int) (v : Int) : ∀ k, k < 3 -> (w3C f).setIfInBounds k (.int .u16 v) = w3C (fun j => if j = k then v else f j)
 | 0, _ => rfl
 | 1, _ => rfl
 | 2, _ => rfl
theorem w3_get (f : Nat -> Int) : ∀ k, k < 3 -> (w3C f)[k]? = some (.int .u16 (f k))
 | 0, _ => rfl
 | 1, _ => rfl
 | 2, _ => rfl
def vRng (r : Rg) (v : Value) (_ : World) : Prop := ∃ n : Int, v = vi n /\ r.lo <= n /\ n <= r.hi
theorem vRng_st {r : Rg} : ∀ v W W', vRng r v W -> newer W W' -> vRng r v W' := fun _ _ _ h _ => h
def vPk (b : Bd) (v : Value) (_ : World) : Prop := ∃ y : Rl, v = rlV y /\ fitB b y = true
theorem vPk_st {b : Bd} : ∀ v W W', vPk b v W -> newer W W' -> vPk b v W' := fun _ _ _ h _ => h
def vOneP (B : Nat) (b : Bd) (v : Value) (W : World) : Prop := ∃ nb y, v = .slice (some ⟨nb, 0, none⟩) 1 1 /\ B <= nb /\ Whole W nb 111 (rlC y) /\ fitB b y = true
theorem vOneP_st {B : Nat} {b : Bd} : ∀ v W W', vOneP B b v W -> newer W W' -> vOneP B b v W' := fun _ _ _ ⟨nb, y, h1, h2, h3, h4⟩ hb => ⟨nb, y, h1, h2, h3.below hb h3.lt, h4⟩
structure PkJ (s : Sm) (u : Su) (bs : List Bd) (k : Nat) (tl : List Rl) (A : Option Addr) (c : Nat) (w W : World) : Prop where
 nw : newer w W
 xb : Whole W w.heap.size 38 (smC s)
 ub : Whole W (w.heap.size + 1) 57 (suC u)
 own : W.ownsRow w.heap.size 111 3 (.slice A k c) k (tl.flatMap rlL)
 ln : tl.length = k
 fit : ∀ i, i < k -> fitB (bs.getD i zeroBd) (tl.getD i ⟨0, 0, 0⟩) = true
theorem PkJ.next {s : Sm} {u : Su} {bs : List Bd} {k : Nat} {tl : List Rl} {A : Option Addr} {c : Nat} {w W W' : World} (h : PkJ s u bs k tl A c w W) (hb : newer W W') : PkJ s u bs k tl A c w W' := ⟨newer_trans h.nw hb, h.xb.below hb h.xb.lt, h.ub.below hb h.ub.lt, own_below h.own hb, h.ln, h.fit⟩
theorem info_rl125 : (Try.prog.info? 111).map (fun i => (i.zero, i.size, i.bytes)) = some (some (.agg #[vi 0, vi 0, vi 0]), 3, 24) := by kernel_rfl
set_option maxRecDepth 100000 in
set_option maxHeartbeats 2000000 in
theorem picked_any (s : Sm) (u : Su) (k0 : Nat) (l : List Nat) (ws : List Hlf) (HA : Option Addr) (hc : Nat) (w : World) (hok : SmOk s w) (hs : SdOk s.sd) (hu : SuOk u w) (hf : u.frm = k0) (hl : u.beds = l.map fun x : Nat => (x : Int)) (hsf : SurfB s.sd.n s.cs.length s.sd.K k0 l) (hwr : Row hwL 1 w w.heap.size HA ws) :
  Calls Try.prog 17 #[smV s, suV u, .slice HA ws.length hc] w fun e w' => ∃ (tl : List Rl) (A : Option Addr) (c : Nat), e = .returned (.slice A tl.length c) /\ Row rlL 3 w' w'.heap.size A tl /\ fitsA (bedsL s.sd.cols k0 l) tl = true /\ newer w w' := by
 have hcl : s.cs.length <= 12 := by have h1 := hs.cols; rw [sd_len] at h1; omega
 have hul : u.beds.length = l.length := by rw [hl]; simp
 have hll : 1 <= l.length := by have h1 := hsf.1; have h2 := (hd_ok hs false).K0; omega
 obtain ⟨y0, hy0⟩ := get_of_lt (l := s.cs) (k := 0) (by have := hsf.2.1; omega)
 obtain ⟨b1, o1, ea, _, _⟩ := rowC hok.cs hy0
 obtain ⟨b2, o2, eu, _⟩ := row1k hu (k := 0) (by omega)
 have hnw : newer w ((w.alloc (.cells (smC s) 38)).alloc (.cells (suC u) 57)) := newer_trans (newer_allocH _ _) (newer_allocH _ _)
 have hxb := (Whole.made w 38 (smC s)).alloc (.cells (suC u) 57)
 have hub := Whole.made (w.alloc (.cells (smC s) 38)) 57 (suC u)
 rw [World.size_alloc] at hub
 have H0 := Lib.hid (And.intro hnw (And.intro hxb hub))
 have HEA := Lib.hid (And.intro ea eu)
 have HOK := Lib.hid hok
 have HU := Lib.hid hu
 have HSD := Lib.hid hs
 have HSF := Lib.hid (And.intro hsf (And.intro hf (And.intro hl hul)))
 have hkl : k0 + l.length <= s.cs.length := hsf.2.1
 have HWR := Lib.hid hwr
 obtain ⟨i0, hi0, hz0, hz1, hz2⟩ := info_parts info_rl125
 have HI := Lib.hid (And.intro hi0 (And.intro hz0 (And.intro hz1 hz2)))
 obtain ⟨bs, hbs⟩ : ∃ bs, bs = bedsL s.sd.cols k0 l := ⟨_, rfl⟩
 have hbl : bs.length = l.length := by rw [hbs]; exact bedsL_len _ _ _
 have HBS := Lib.hid (And.intro hbs hbl)
 rw [<- hbs]
 clear hok hs hu hsf hf hl hul hnw hxb hub ea eu hy0 hi0 hz0 hz1 hz2 hwr hbs hbl
 go_enter Try.func17, Try.ntmps17
 go_wp2_with fail
 go_loopw [7, 8] (fun s7 s8 wr => ∃ (k : Nat) (tl : List Rl) (A : Option Addr) (c : Nat), s8 = vi k /\ k <= l.length /\ s7 = .slice A k c /\ PkJ s u bs k tl A c w wr) (fun _ s8 _ => l.length - (intOf s8).toNat)
 case atStart => exact ⟨0, [], none, 0, rfl, Nat.zero_le _, rfl, H0.out.1, H0.out.2.1, H0.out.2.2, ⟨rfl, .inl ⟨rfl, rfl⟩⟩, rfl, fun i h => absurd h (by omega)⟩
 case round =>
  obtain ⟨k, tl, A, c, rfl, hk, rfl, hj⟩ := hrel
  clear H0
  have HJ := Lib.hid hj
  have hn := hj.nw
  have hx := hj.xb
  have hu2 := hj.ub
  clear hj
  have u1 := hu2.at 1 (v := .slice u.a u.beds.length u.c) rfl
  rw [HEA.out.2, HSF.out.2.2.2] at u1
  by_cases hlt : k < l.length
  ·obtain ⟨b, hb⟩ := get_of_lt hlt
   have hbn := way_lt l k b HSF.out.1.2.2 hb
   obtain ⟨kk, hkk0⟩ : ∃ kk, kk = k0 + k := ⟨_, rfl⟩
   obtain ⟨x, hx1, hx2, hx3, hx4⟩ := bdAt_is HSD.out (k := kk) (j := b) (by omega) hbn
   obtain ⟨bd, hbd⟩ : ∃ bd, bd = bdAt s.sd.cols kk b := ⟨_, rfl⟩
   rw [<- hbd] at hx2 hx4
   have HG := Lib.hid (And.intro (show (bedsL s.sd.cols k0 l)[k]? = some bd by rw [hbd, hkk0]; exact bedsL_get _ l k0 k b hb) hx4)
   obtain ⟨b3, o3, e3, _, cx⟩ := rowC (HOK.out.next hn).cs hx1
   rw [HEA.out.1] at e3
   obtain ⟨rfl, rfl⟩ : b1 = b3 /\ o1 = o3 := by simpa using e3
   obtain ⟨b4, o4, e4, _, d0, d1, d2, d3, d4, d5, d6, d7⟩ := row8 ((HOK.out.next hn).bd x (List.mem_of_getElem? hx1)) hx2
   rw [e4] at cx
   obtain ⟨b5, o5, e5, p0⟩ := row1k (HU.out.next hn) (k := k) (by rw [HSF.out.2.2.2]; exact hlt)
   rw [HEA.out.2] at e5
   obtain ⟨rfl, rfl⟩ : b2 = b5 /\ o2 = o5 := by simpa using e5
   have ep : iAt u.beds k = (b : Int) := by rw [HSF.out.2.2.1]; simp [iAt, hb]
   rw [ep] at p0
   have x0 := hx.at 0 (v := .slice s.a s.cs.length s.c) rfl
   rw [HEA.out.1] at x0
   have u0 := hu2.at 0 (v := vi u.frm) rfl
   rw [HSF.out.2.1] at u0
   have u1 := hu2.at 1 (v := .slice u.a u.beds.length u.c) rfl
   rw [HEA.out.2, HSF.out.2.2.2] at u1
   have hkc : (kk : Int) < s.cs.length := by omega
   have hbx : (b : Int) < x.beds.length := by omega
   have hki : (k : Int) < l.length := by omega
   have hk12 : k <= 12 := by omega
   have c22 : IntKind.i64.wrap ((k0 : Int) + (k : Int)) = (kk : Int) := by rw [show (k0 : Int) + k = kk by omega]; exact IntWalk.i64_in _ (by omega)
   clear hkk0 hx1 hx2 hx3 hx4 hbd e3 e4 e5 ep hbn hb
   clear hn hx hu2
   go_upto_region 5 with fail
   refine wp_words (by kernel_rfl) (region_told 16 (by kernel_rfl) (by kernel_rfl) (fun W => Below wr.heap.size wr W) newer (pickD [vIs (.pointer (some ⟨w.heap.size, 0, none⟩)), vIs (.slice (some ⟨b1, o1, none⟩) s.cs.length s.c), vIs (.pointer (some ⟨(w.heap.size + 1), 0, none⟩)), vIs (.int .i64 k0), vIs (.int .i64 k), vIs (.int .i64 kk), vIs (.pointer (some ⟨b1, o1 + kk, none⟩)), vIs (.slice (some ⟨b4, o4, none⟩) x.beds.length x.cp), vIs (.pointer (some ⟨(w.heap.size + 1), 1, none⟩)), vIs (.slice (some ⟨b2, o2, none⟩) l.length u.c), vIs (.int .i64 k), vIs (.pointer (some ⟨b2, o2 + k, none⟩)), vIs (.int .i64 b), vIs (.pointer (some ⟨b4, o4 + b * 8, none⟩)), vIs (bdV bd), vNew wr.heap.size 83 zeroX]) (fun h k => newer_trans h k) (pickD_stable _ ⟨vIs_st, vIs_st, vIs_st, vIs_st, vIs_st, vIs_st, vIs_st, vIs_st, vIs_st, vIs_st, vIs_st, vIs_st, vIs_st, vIs_st, vIs_st, vNew_st, trivial⟩) (Below.refl _ wr).drew (Below.refl _ _) ?_ ?_)
   ·refine ⟨?_, ?_, ?_, ?_, ?_, ?_, ?_, ?_, ?_, ?_, ?_, ?_, ?_, ?_, ?_, ?_, trivial⟩
    ·intro a W hG hR hO hp; have h3 := hO.slot 3 (by kernel_rfl); refine wp_yields (v := .pointer (some ⟨w.heap.size, 0, none⟩)) ?_ ⟨_, rfl, rfl, Below.refl _ _, hG⟩; simp [slotOf] at h3; simp [execOp, go_sem, h3]
    ·intro a W hG hR hO hp; have h19 : slotOf a 19 = .pointer (some ⟨w.heap.size, 0, none⟩) := hp.1; have c0 := keep_cell x0 hG; refine wp_yields (v := .slice (some ⟨b1, o1, none⟩) s.cs.length s.c) ?_ ⟨_, rfl, rfl, Below.refl _ _, hG⟩; simp [slotOf] at h19; simp [execOp, go_sem, h19, c0]
    ·intro a W hG hR hO hp; have h4 := hO.slot 4 (by kernel_rfl); refine wp_yields (v := .pointer (some ⟨(w.heap.size + 1), 0, none⟩)) ?_ ⟨_, rfl, rfl, Below.refl _ _, hG⟩; simp [slotOf] at h4; simp [execOp, go_sem, h4]
    ·intro a W hG hR hO hp; have h21 : slotOf a 21 = .pointer (some ⟨(w.heap.size + 1), 0, none⟩) := hp.1; have c0 := keep_cell u0 hG; refine wp_yields (v := .int .i64 k0) ?_ ⟨_, rfl, rfl, Below.refl _ _, hG⟩; simp [slotOf] at h21; simp [execOp, go_sem, h21, c0]
    ·intro a W hG hR hO hp; have h8 := hO.slot 8 (by kernel_rfl); refine wp_yields (v := .int .i64 k) ?_ ⟨_, rfl, rfl, Below.refl _ _, hG⟩; simp [slotOf] at h8; simp [execOp, go_sem, h8]
    ·intro a W hG hR hO hp; have h22 : slotOf a 22 = .int .i64 k0 := hp.1; have h23 : slotOf a 23 = .int .i64 k := hp.2.1; refine wp_yields (v := .int .i64 kk) ?_ ⟨_, rfl, rfl, Below.refl _ _, hG⟩; simp [slotOf] at h22 h23; simp [execOp, go_sem, h22, h23, c22]
    ·intro a W hG hR hO hp; have h20 : slotOf a 20 = .slice (some ⟨b1, o1, none⟩) s.cs.length s.c := hp.1; have h24 : slotOf a 24 = .int .i64 kk := hp.2.1; refine wp_yields (v := .pointer (some ⟨b1, o1 + kk, none⟩)) ?_ ⟨_, rfl, rfl, Below.refl _ _, hG⟩; simp [slotOf] at h20 h24; simp [execOp, go_sem, h20, h24, hkc]
    ·intro a W hG hR hO hp; have h25 : slotOf a 25 = .pointer (some ⟨b1, o1 + kk, none⟩) := hp.1; have c0 := keep_cell cx hG; refine wp_yields (v := .slice (some ⟨b4, o4, none⟩) x.beds.length x.cp) ?_ ⟨_, rfl, rfl, Below.refl _ _, hG⟩; simp [slotOf] at h25; simp [execOp, go_sem, h25, c0]
    ·intro a W hG hR hO hp; have h4 := hO.slot 4 (by kernel_rfl); refine wp_yields (v := .pointer (some ⟨(w.heap.size + 1), 1, none⟩)) ?_ ⟨_, rfl, rfl, Below.refl _ _, hG⟩; simp [slotOf] at h4; simp [execOp, go_sem, h4]
    ·intro a W hG hR hO hp; have h27 : slotOf a 27 = .pointer (some ⟨(w.heap.size + 1), 1, none⟩) := hp.1; have c0 := keep_cell u1 hG; refine wp_yields (v := .slice (some ⟨b2, o2, none⟩) l.length u.c) ?_ ⟨_, rfl, rfl, Below.refl _ _, hG⟩; simp [slotOf] at h27; simp [execOp, go_sem, h27, c0]
    ·intro a W hG hR hO hp; have h8 := hO.slot 8 (by kernel_rfl); refine wp_yields (v := .int .i64 k) ?_ ⟨_, rfl, rfl, Below.refl _ _, hG⟩; simp [slotOf] at h8; simp [execOp, go_sem, h8]
    ·intro a W hG hR hO hp; have h28 : slotOf a 28 = .slice (some ⟨b2, o2, none⟩) l.length u.c := hp.1; have h29 : slotOf a 29 = .int .i64 k := hp.2.1; refine wp_yields (v := .pointer (some ⟨b2, o2 + k, none⟩)) ?_ ⟨_, rfl, rfl, Below.refl _ _, hG⟩; simp [slotOf] at h28 h29; simp [execOp, go_sem, h28, h29, hki]
    ·intro a W hG hR hO hp; have h30 : slotOf a 30 = .pointer (some ⟨b2, o2 + k, none⟩) := hp.1; have c0 := keep_cell p0 hG; refine wp_yields (v := .int .i64 b) ?_ ⟨_, rfl, rfl, Below.refl _ _, hG⟩; simp [slotOf] at h30; simp [execOp, go_sem, h30, c0]
    ·intro a W hG hR hO hp; have h26 : slotOf a 26 = .slice (some ⟨b4, o4, none⟩) x.beds.length x.cp := hp.1; have h31 : slotOf a 31 = .int .i64 b := hp.2.1; refine wp_yields (v := .pointer (some ⟨b4, o4 + b * 8, none⟩)) ?_ ⟨_, rfl, rfl, Below.refl _ _, hG⟩; simp [slotOf] at h26 h31; simp [execOp, go_sem, h26, h31, hbx]
    ·intro a W hG hR hO hp; have h32 : slotOf a 32 = .pointer (some ⟨b4, o4 + b * 8, none⟩) := hp.1; have c0 := keep_cell d0 hG; have c1 := keep_cell d1 hG; have c2 := keep_cell d2 hG; have c3 := keep_cell d3 hG; have c4 := keep_cell d4 hG; have c5 := keep_cell d5 hG; have c6 := keep_cell d6 hG; have c7 := keep_cell d7 hG; refine wp_yields (v := bdV bd) ?_ ⟨_, rfl, rfl, Below.refl _ _, hG⟩; simp [slotOf] at h32; simp [execOp, go_sem, h32, c0, c1, c2, c3, c4, c5, c6, c7]
    ·intro a W hG hR hO hp; refine wp_makes (v := .pointer (some ⟨W.heap.size, 0, none⟩)) (W' := W.alloc (.cells zeroX 83)) ?_ ⟨_, rfl, ⟨_, rfl, hG.size, Whole.made _ _ _⟩, newer_allocH _ _, below_next hG (newer_allocH _ _)⟩; skip; simp [execOp, go_sem, zeroX]
   ·intro wz hG hR
    rintro _ rfl _ rfl _ rfl _ rfl _ rfl _ rfl _ rfl _ rfl _ rfl _ rfl _ rfl _ rfl _ rfl _ rfl _ rfl _ ⟨g, rfl, hg, hW⟩
    change wpList _ _ _ _ _ _
    simp only [Act.put, List.setIfInBounds_toArray, List.set_cons_zero, List.set_cons_succ, List.drop_succ_cons, List.drop_zero]
    have hbox := (put8 hW bd)
    have hgr := (put8_grown wz g bd)
    have HB5 : Hid (newer wr ((((((((wz.setCell ⟨g, 0, none⟩ (vi bd.drive)).setCell ⟨g, 1, none⟩ (vi bd.normal)).setCell ⟨g, 2, none⟩ (vi bd.fr.lo)).setCell ⟨g, 3, none⟩ (vi bd.fr.hi)).setCell ⟨g, 4, none⟩ (vi bd.co.lo)).setCell ⟨g, 5, none⟩ (vi bd.co.hi)).setCell ⟨g, 6, none⟩ (vi bd.wa.lo)).setCell ⟨g, 7, none⟩ (vi bd.wa.hi)) /\ Whole ((((((((wz.setCell ⟨g, 0, none⟩ (vi bd.drive)).setCell ⟨g, 1, none⟩ (vi bd.normal)).setCell ⟨g, 2, none⟩ (vi bd.fr.lo)).setCell ⟨g, 3, none⟩ (vi bd.fr.hi)).setCell ⟨g, 4, none⟩ (vi bd.co.lo)).setCell ⟨g, 5, none⟩ (vi bd.co.hi)).setCell ⟨g, 6, none⟩ (vi bd.wa.lo)).setCell ⟨g, 7, none⟩ (vi bd.wa.hi)) g 83 (bdC bd)) := Lib.hid ⟨Below.trans hG (below_of_grown hgr hg hG.size), hbox⟩
    have e0 := hW.at 0 (v := vi 0) rfl
    have f0 := hW.free 0
    have e1 := hW.at 1 (v := vi 0) rfl
    have f1 := hW.free 1
    have e2 := hW.at 2 (v := vi 0) rfl
    have f2 := hW.free 2
    have e3 := hW.at 3 (v := vi 0) rfl
    have f3 := hW.free 3
    have e4 := hW.at 4 (v := vi 0) rfl
    have f4 := hW.free 4
    have e5 := hW.at 5 (v := vi 0) rfl
    have f5 := hW.free 5
    have e6 := hW.at 6 (v := vi 0) rfl
    have f6 := hW.free 6
    have e7 := hW.at 7 (v := vi 0) rfl
    have f7 := hW.free 7
    clear hbox hgr hG hR hW x0 u0 u1 cx p0 d0 d1 d2 d3 d4 d5 d6 d7 c22
    go_upto_region 6 with fail
    refine genQ (fun X => newer wr X /\ Whole X g 83 (bdC bd)) HB5.out ?_
    clear HB5 e0 e1 e2 e3 e4 e5 e6 e7 f0 f1 f2 f3 f4 f5 f6 f7 wz
    rintro w6 ⟨q1, q2⟩
    have e7 := newer_allocH w6 (.cells #[.int .u16 0, .int .u16 0, .int .u16 0] 112)
    have H6 := Lib.hid (And.intro (HJ.out.next (newer_trans q1 e7)) (And.intro (q2.below e7 q2.lt) (Whole.made w6 112 #[.int .u16 0, .int .u16 0, .int .u16 0])))
    obtain ⟨ab, hab⟩ : ∃ ab, ab = w6.heap.size := ⟨_, rfl⟩
    have HLO : Hid (w.heap.size <= ab) := Lib.hid (by rw [hab]; exact (newer_trans HJ.out.nw q1).size)
    have hge : bs.getD k zeroBd = bd := by simp [List.getD, HBS.out.1, HG.out.1]
    have HGE := Lib.hid hge
    clear q1 q2 e7 HJ hge
    go_wp2_with fail
    rw [<- hab] at H6 ⊢
    clear hab
    go_loopw [11] (fun s11 wr => ∃ (j : Nat) (f : Nat -> Int), j <= 3 /\ s11 = vi j /\ (∀ i, 0 <= f i /\ f i <= 65535) /\ PkJ s u bs k tl A c w wr /\ Whole wr g 83 (bdC bd) /\ Whole wr ab 112 (w3C f)) (fun s11 _ => 3 - (intOf s11).toNat)
    case atStart => exact ⟨0, fun _ => 0, by omega, rfl, fun i => ⟨Int.le_refl _, by show (0 : Int) <= 65535; omega⟩, H6.out.1, H6.out.2.1, H6.out.2.2⟩
    case round =>
     obtain ⟨j, f, hj3, rfl, hfb, p1, p2, p3⟩ := hrel
     clear H6
     have HFB := Lib.hid hfb
     have HQ := Lib.hid (And.intro p1 (And.intro p2 p3))
     clear hfb p1 p2 p3
     obtain ⟨wx, rfl⟩ : ∃ wx : World, wx = wr := ⟨_, rfl⟩
     have fin : Hid (j = 3 ∨ ws = [] -> True) := Lib.hid (fun _ => trivial)
     by_cases hgo : j < 3 /\ ws ≠ []
     ·obtain ⟨hj2, hwn⟩ := hgo
      have hl0 : 0 < ws.length := List.length_pos_iff.2 hwn
      have hl0i : (0 : Int) < ws.length := by omega
      have hj2i : (j : Int) < 3 := by omega
      obtain ⟨a3, ha3⟩ : ∃ a : Nat, a = 3 * k + j := ⟨_, rfl⟩
      obtain ⟨r, hr⟩ : ∃ r, r = a3 % ws.length := ⟨_, rfl⟩
      have hrl : r < ws.length := by rw [hr]; exact Nat.mod_lt _ hl0
      have hrn : (r : Int) < ws.length := by omega
      have em : IntKind.i64.wrap (3 * (k : Int)) = 3 * (k : Int) := IntWalk.i64_in _ (by omega)
      have ea : IntKind.i64.wrap (3 * (k : Int) + j) = a3 := by rw [show (a3 : Int) = 3 * (k : Int) + j by omega]; exact IntWalk.i64_in _ (by omega)
      have er : (a3 : Int).tmod ws.length = r := by rw [hr, Int.tmod_eq_emod_of_nonneg (by omega)]; exact (Int.natCast_emod _ _).symm
      have hcz : ¬ ((ws.length : Int) = 0) := by omega
      have hwb : ¬ (ws = []) := hwn
      obtain ⟨y, hy⟩ := get_of_lt hrl
      obtain ⟨hb1, ho1, eh, _, cb⟩ := row_half (HWR.out.below HQ.out.1.nw) hy
      have v0 := HQ.out.2.2.at j (w3_get f j hj2)
      have vf := HQ.out.2.2.free j
      have HS : Hid (PkJ s u bs k tl A c w (wx.setCell ⟨ab, j, none⟩ (.int .u16 y.n)) /\ Whole (wx.setCell ⟨ab, j, none⟩ (.int .u16 y.n)) g 83 (bdC bd) /\ Whole (wx.setCell ⟨ab, j, none⟩ (.int .u16 y.n)) ab 112 (w3C fun i => if i = j then y.n else f i)) := Lib.hid (by
       have hne : w.heap.size ≠ ab := HQ.out.1.xb.ne HQ.out.2.2 (by decide)
       have hne1 : w.heap.size + 1 ≠ ab := HQ.out.1.ub.ne HQ.out.2.2 (by decide)
       have hne2 : g ≠ ab := HQ.out.2.1.ne HQ.out.2.2 (by decide)
       have h3 := HQ.out.2.2.set j (.int .u16 y.n)
       rw [w3_set f y.n j hj2] at h3
       exact ⟨⟨HQ.out.1.nw.setCell (p := ⟨ab, j, none⟩) HLO.out _, HQ.out.1.xb.far (p := ⟨ab, j, none⟩) hne _, HQ.out.1.ub.far (p := ⟨ab, j, none⟩) hne1 _, own_set HQ.out.1.own (own_ne HQ.out.1.own HQ.out.2.2 (by decide)) _, HQ.out.1.ln, HQ.out.1.fit⟩, HQ.out.2.1.far (p := ⟨ab, j, none⟩) hne2 _, h3⟩)
      have HYB := Lib.hid (And.intro y.lo y.hi)
      have HEH := Lib.hid eh
      subst eh
      clear hwn hr ha3 hy
      go_wp2_with fail
      refine ⟨⟨j + 1, fun i => if i = j then y.n else f i, by omega, rfl, fun i => ?_, HS.out.1, HS.out.2.1, HS.out.2.2⟩, ?_⟩
      ·dsimp only
       by_cases h : i = j
       ·rw [if_pos h]; exact HYB.out
       ·rw [if_neg h]; exact HFB.out i
      ·simp [intOf]
       omega
     ·have hex : j < 3 -> ¬ ((0 : Int) < ws.length) := fun h => by
       have : ws = [] := Classical.byContradiction fun h2 => hgo ⟨h, h2⟩
       rw [this]
       simp
      have HP0 := Lib.hid (fun W => pick_any bd.fr (f 0) W (HFB.out 0).1 (HFB.out 0).2 (bdB_parts HG.out.2).2.2.1.1 (bdB_parts HG.out.2).2.2.1.2.1 (by have := (bdB_parts HG.out.2).2.2.1.2.2; omega))
      have HP1 := Lib.hid (fun W => pick_any bd.co (f 1) W (HFB.out 1).1 (HFB.out 1).2 (bdB_parts HG.out.2).2.2.2.1.1 (bdB_parts HG.out.2).2.2.2.1.2.1 (bdB_parts HG.out.2).2.2.2.1.2.2)
      have HP2 := Lib.hid (fun W => pick_any bd.wa (f 2) W (HFB.out 2).1 (HFB.out 2).2 (bdB_parts HG.out.2).2.2.2.2.1 (bdB_parts HG.out.2).2.2.2.2.2.1 (bdB_parts HG.out.2).2.2.2.2.2.2)
      have z2 := HQ.out.2.1.at 2 (v := vi bd.fr.lo) rfl
      have z3 := HQ.out.2.1.at 3 (v := vi bd.fr.hi) rfl
      have z4 := HQ.out.2.1.at 4 (v := vi bd.co.lo) rfl
      have z5 := HQ.out.2.1.at 5 (v := vi bd.co.hi) rfl
      have z6 := HQ.out.2.1.at 6 (v := vi bd.wa.lo) rfl
      have z7 := HQ.out.2.1.at 7 (v := vi bd.wa.hi) rfl
      have v0 := HQ.out.2.2.at 0 (w3_get f 0 (by omega))
      have v1 := HQ.out.2.2.at 1 (w3_get f 1 (by omega))
      have v2 := HQ.out.2.2.at 2 (w3_get f 2 (by omega))
      clear hgo fin
      by_cases hj4 : j < 3
      ·have hj5 : (j : Int) < 3 := by omega
       have hex2 := hex hj4
       clear hex
       go_upto_region 11 with fail
       refine wp_words (by kernel_rfl) (region_told 18 (by kernel_rfl) (by kernel_rfl) (fun W => Below wx.heap.size wx W) newer (pickD [vIs (.slice A k c), vIs (.pointer (some ⟨g, 2, none⟩)), vIs (rgV bd.fr), vIs (.pointer (some ⟨ab, 0, none⟩)), vIs (.int .u16 (f 0)), vRng bd.fr, vIs (.pointer (some ⟨g, 4, none⟩)), vIs (rgV bd.co), vIs (.pointer (some ⟨ab, 1, none⟩)), vIs (.int .u16 (f 1)), vRng bd.co, vIs (.pointer (some ⟨g, 6, none⟩)), vIs (rgV bd.wa), vIs (.pointer (some ⟨ab, 2, none⟩)), vIs (.int .u16 (f 2)), vRng bd.wa, vPk bd, vOneP wx.heap.size bd]) (fun h k => newer_trans h k) (pickD_stable _ ⟨vIs_st, vIs_st, vIs_st, vIs_st, vIs_st, vRng_st, vIs_st, vIs_st, vIs_st, vIs_st, vRng_st, vIs_st, vIs_st, vIs_st, vIs_st, vRng_st, vPk_st, vOneP_st, trivial⟩) (Below.refl _ wx).drew (Below.refl _ _) ?_ ?_)
       ·refine ⟨?_, ?_, ?_, ?_, ?_, ?_, ?_, ?_, ?_, ?_, ?_, ?_, ?_, ?_, ?_, ?_, ?_, ?_, trivial⟩
        ·intro a W hG hR hO hp; have h7 := hO.slot 7 (by kernel_rfl); refine wp_yields (v := .slice A k c) ?_ ⟨_, rfl, rfl, Below.refl _ _, hG⟩; simp [slotOf] at h7; simp [execOp, go_sem, h7]
        ·intro a W hG hR hO hp; have h9 := hO.slot 9 (by kernel_rfl); refine wp_yields (v := .pointer (some ⟨g, 2, none⟩)) ?_ ⟨_, rfl, rfl, Below.refl _ _, hG⟩; simp [slotOf] at h9; simp [execOp, go_sem, h9]
        ·intro a W hG hR hO hp; have h56 : slotOf a 56 = .pointer (some ⟨g, 2, none⟩) := hp.1; have c0 := keep_cell z2 hG; have c1 := keep_cell z3 hG; refine wp_yields (v := rgV bd.fr) ?_ ⟨_, rfl, rfl, Below.refl _ _, hG⟩; simp [slotOf] at h56; simp [execOp, go_sem, h56, c0, c1]
        ·intro a W hG hR hO hp; have h10 := hO.slot 10 (by kernel_rfl); refine wp_yields (v := .pointer (some ⟨ab, 0, none⟩)) ?_ ⟨_, rfl, rfl, Below.refl _ _, hG⟩; simp [slotOf] at h10; simp [execOp, go_sem, h10]
        ·intro a W hG hR hO hp; have h58 : slotOf a 58 = .pointer (some ⟨ab, 0, none⟩) := hp.1; have c0 := keep_cell v0 hG; refine wp_yields (v := .int .u16 (f 0)) ?_ ⟨_, rfl, rfl, Below.refl _ _, hG⟩; simp [slotOf] at h58; simp [execOp, go_sem, h58, c0]
        ·intro a W hG hR hO hp
         have h57 : slotOf a 57 = rgV bd.fr := hp.1
         have h59 : slotOf a 59 = .int .u16 (f 0) := hp.2.1
         refine wp_enters (f := 38) (args := #[rgV bd.fr, .int .u16 (f 0)]) ?_ ((HP0.out W).mono ?_)
         ·simp [slotOf] at h57 h59
          simp [go_sem, h57, h59]
         ·rintro e w' ⟨n, rfl, h1, h2, hb⟩
          exact ⟨_, rfl, _, rfl, ⟨n, rfl, h1, h2⟩, hb, below_next hG hb⟩
        ·intro a W hG hR hO hp; have h9 := hO.slot 9 (by kernel_rfl); refine wp_yields (v := .pointer (some ⟨g, 4, none⟩)) ?_ ⟨_, rfl, rfl, Below.refl _ _, hG⟩; simp [slotOf] at h9; simp [execOp, go_sem, h9]
        ·intro a W hG hR hO hp; have h61 : slotOf a 61 = .pointer (some ⟨g, 4, none⟩) := hp.1; have c0 := keep_cell z4 hG; have c1 := keep_cell z5 hG; refine wp_yields (v := rgV bd.co) ?_ ⟨_, rfl, rfl, Below.refl _ _, hG⟩; simp [slotOf] at h61; simp [execOp, go_sem, h61, c0, c1]
        ·intro a W hG hR hO hp; have h10 := hO.slot 10 (by kernel_rfl); refine wp_yields (v := .pointer (some ⟨ab, 1, none⟩)) ?_ ⟨_, rfl, rfl, Below.refl _ _, hG⟩; simp [slotOf] at h10; simp [execOp, go_sem, h10]
        ·intro a W hG hR hO hp; have h63 : slotOf a 63 = .pointer (some ⟨ab, 1, none⟩) := hp.1; have c0 := keep_cell v1 hG; refine wp_yields (v := .int .u16 (f 1)) ?_ ⟨_, rfl, rfl, Below.refl _ _, hG⟩; simp [slotOf] at h63; simp [execOp, go_sem, h63, c0]
        ·intro a W hG hR hO hp
         have h62 : slotOf a 62 = rgV bd.co := hp.1
         have h64 : slotOf a 64 = .int .u16 (f 1) := hp.2.1
         refine wp_enters (f := 38) (args := #[rgV bd.co, .int .u16 (f 1)]) ?_ ((HP1.out W).mono ?_)
         ·simp [slotOf] at h62 h64
          simp [go_sem, h62, h64]
         ·rintro e w' ⟨n, rfl, h1, h2, hb⟩
          exact ⟨_, rfl, _, rfl, ⟨n, rfl, h1, h2⟩, hb, below_next hG hb⟩
        ·intro a W hG hR hO hp; have h9 := hO.slot 9 (by kernel_rfl); refine wp_yields (v := .pointer (some ⟨g, 6, none⟩)) ?_ ⟨_, rfl, rfl, Below.refl _ _, hG⟩; simp [slotOf] at h9; simp [execOp, go_sem, h9]
        ·intro a W hG hR hO hp; have h66 : slotOf a 66 = .pointer (some ⟨g, 6, none⟩) := hp.1; have c0 := keep_cell z6 hG; have c1 := keep_cell z7 hG; refine wp_yields (v := rgV bd.wa) ?_ ⟨_, rfl, rfl, Below.refl _ _, hG⟩; simp [slotOf] at h66; simp [execOp, go_sem, h66, c0, c1]
        ·intro a W hG hR hO hp; have h10 := hO.slot 10 (by kernel_rfl); refine wp_yields (v := .pointer (some ⟨ab, 2, none⟩)) ?_ ⟨_, rfl, rfl, Below.refl _ _, hG⟩; simp [slotOf] at h10; simp [execOp, go_sem, h10]
        ·intro a W hG hR hO hp; have h68 : slotOf a 68 = .pointer (some ⟨ab, 2, none⟩) := hp.1; have c0 := keep_cell v2 hG; refine wp_yields (v := .int .u16 (f 2)) ?_ ⟨_, rfl, rfl, Below.refl _ _, hG⟩; simp [slotOf] at h68; simp [execOp, go_sem, h68, c0]
        ·intro a W hG hR hO hp
         have h67 : slotOf a 67 = rgV bd.wa := hp.1
         have h69 : slotOf a 69 = .int .u16 (f 2) := hp.2.1
         refine wp_enters (f := 38) (args := #[rgV bd.wa, .int .u16 (f 2)]) ?_ ((HP2.out W).mono ?_)
         ·simp [slotOf] at h67 h69
          simp [go_sem, h67, h69]
         ·rintro e w' ⟨n, rfl, h1, h2, hb⟩
          exact ⟨_, rfl, _, rfl, ⟨n, rfl, h1, h2⟩, hb, below_next hG hb⟩
        ·intro a W hG hR hO hp; have h60 := hp.1; have h65 := hp.2.1; have h70 := hp.2.2.1; obtain ⟨n0, h60, g1, g2⟩ := h60; obtain ⟨n1, h65, g3, g4⟩ := h65; obtain ⟨n2, h70, g5, g6⟩ := h70; refine wp_yields (v := rlV ⟨n0, n1, n2⟩) ?_ ⟨_, rfl, ⟨⟨n0, n1, n2⟩, rfl, by simp [fitB, inB]; omega⟩, Below.refl _ _, hG⟩; simp [slotOf] at h60 h65 h70; simp [execOp, go_sem, h60, h65, h70]
        ·intro a W hG hR hO hp; have h71 := hp.1; obtain ⟨y, h71, hy⟩ := h71; refine wp_makes (v := .slice (some ⟨W.heap.size, 0, none⟩) 1 1) (W' := W.alloc (.cells (rlC y) 111)) ?_ ⟨_, rfl, ⟨_, y, rfl, hG.size, Whole.made _ _ _, hy⟩, newer_allocH _ _, below_next hG (newer_allocH _ _)⟩; simp [slotOf] at h71; simp [execOp, go_sem, h71]
       ·intro wy hG hR
        rintro _ rfl _ rfl _ rfl _ rfl _ rfl _ - _ rfl _ rfl _ rfl _ rfl _ - _ rfl _ rfl _ rfl _ rfl _ - _ - _ ⟨nb, y, rfl, hnb, hW, hyf⟩
        change wpList _ _ _ _ _ _
        simp only [Act.put, List.setIfInBounds_toArray, List.set_cons_zero, List.set_cons_succ, List.drop_succ_cons, List.drop_zero]
        have HO := Lib.hid (own_below HQ.out.1.own hG)
        have HN := Lib.hid (HQ.out.1.next hG)
        have HWN := Lib.hid (World.news_of_block hW)
        have HYF := Lib.hid hyf
        clear hG hR hW z2 z3 z4 z5 z6 z7 v0 v1 v2 hyf HP0 HP1 HP2
        go_wp2_with (at_builtin; go_loud ((refine wpList_append_lies _ rfl (.tmp 55) (.tmp 72) 64 rfl w.heap.size 111 i0 (.agg #[vi 0, vi 0, vi 0]) 3 24 Try.underlying64 HI.out.1 HI.out.2.1 HI.out.2.2.1 HI.out.2.2.2 rfl (by omega) _ k _ rfl HO.out ⟨nb, 0, none⟩ 1 1 (rlL y) rfl rfl HWN.out (by simp [Value.oneCell']) (by omega) (by unfold maxLen; omega) (by omega) HN.out.nw.size wy.heap.size rfl ?_); intro gg cp2 w2 hown2 hgrow2 hat2 hlt2; have HE := Lib.hid (And.intro hown2 (And.intro hgrow2 (own_ge HO.out))); clear hown2 hgrow2 hat2 hlt2))
        refine ⟨⟨k + 1, tl ++ [y], some ⟨gg, 0, none⟩, cp2, rfl, by omega, rfl, ?_, ?_, ?_, ?_, ?_, ?_⟩, ?_⟩
        ·exact below_grown (grown_trans' (grown_of_newer HN.out.nw _) HE.out.2.1) HE.out.2.2 (Nat.le_refl _)
        ·exact HN.out.xb.grown HE.out.2.1 (fun e => own_ne HO.out HN.out.xb (by decide) e.symm)
        ·exact HN.out.ub.grown HE.out.2.1 (fun e => own_ne HO.out HN.out.ub (by decide) e.symm)
        ·rw [List.flatMap_append, List.flatMap_singleton]
         exact HE.out.1
        ·rw [List.length_append, HN.out.ln]; rfl
        ·intro i hi
         by_cases h : i = k
         ·rw [h, HGE.out]
          have e9 : (tl ++ [y]).getD k ⟨0, 0, 0⟩ = y := by simp [List.getD, <- HN.out.ln]
          rw [e9]
          exact HYF.out
         ·have h1 := HN.out.fit i (by omega)
          have e9 : (tl ++ [y]).getD i ⟨0, 0, 0⟩ = tl.getD i ⟨0, 0, 0⟩ := by simp [List.getD, List.getElem?_append_left (show i < tl.length by rw [HN.out.ln]; omega)]
          rw [e9]
          exact h1
        ·simp [intOf]
         omega
      ·have hj5 : ¬ ((j : Int) < 3) := by omega
       clear hex
       go_upto_region 11 with fail
       refine wp_words (by kernel_rfl) (region_told 18 (by kernel_rfl) (by kernel_rfl) (fun W => Below wx.heap.size wx W) newer (pickD [vIs (.slice A k c), vIs (.pointer (some ⟨g, 2, none⟩)), vIs (rgV bd.fr), vIs (.pointer (some ⟨ab, 0, none⟩)), vIs (.int .u16 (f 0)), vRng bd.fr, vIs (.pointer (some ⟨g, 4, none⟩)), vIs (rgV bd.co), vIs (.pointer (some ⟨ab, 1, none⟩)), vIs (.int .u16 (f 1)), vRng bd.co, vIs (.pointer (some ⟨g, 6, none⟩)), vIs (rgV bd.wa), vIs (.pointer (some ⟨ab, 2, none⟩)), vIs (.int .u16 (f 2)), vRng bd.wa, vPk bd, vOneP wx.heap.size bd]) (fun h k => newer_trans h k) (pickD_stable _ ⟨vIs_st, vIs_st, vIs_st, vIs_st, vIs_st, vRng_st, vIs_st, vIs_st, vIs_st, vIs_st, vRng_st, vIs_st, vIs_st, vIs_st, vIs_st, vRng_st, vPk_st, vOneP_st, trivial⟩) (Below.refl _ wx).drew (Below.refl _ _) ?_ ?_)
       ·refine ⟨?_, ?_, ?_, ?_, ?_, ?_, ?_, ?_, ?_, ?_, ?_, ?_, ?_, ?_, ?_, ?_, ?_, ?_, trivial⟩
        ·intro a W hG hR hO hp; have h7 := hO.slot 7 (by kernel_rfl); refine wp_yields (v := .slice A k c) ?_ ⟨_, rfl, rfl, Below.refl _ _, hG⟩; simp [slotOf] at h7; simp [execOp, go_sem, h7]
        ·intro a W hG hR hO hp; have h9 := hO.slot 9 (by kernel_rfl); refine wp_yields (v := .pointer (some ⟨g, 2, none⟩)) ?_ ⟨_, rfl, rfl, Below.refl _ _, hG⟩; simp [slotOf] at h9; simp [execOp, go_sem, h9]
        ·intro a W hG hR hO hp; have h56 : slotOf a 56 = .pointer (some ⟨g, 2, none⟩) := hp.1; have c0 := keep_cell z2 hG; have c1 := keep_cell z3 hG; refine wp_yields (v := rgV bd.fr) ?_ ⟨_, rfl, rfl, Below.refl _ _, hG⟩; simp [slotOf] at h56; simp [execOp, go_sem, h56, c0, c1]
        ·intro a W hG hR hO hp; have h10 := hO.slot 10 (by kernel_rfl); refine wp_yields (v := .pointer (some ⟨ab, 0, none⟩)) ?_ ⟨_, rfl, rfl, Below.refl _ _, hG⟩; simp [slotOf] at h10; simp [execOp, go_sem, h10]
        ·intro a W hG hR hO hp; have h58 : slotOf a 58 = .pointer (some ⟨ab, 0, none⟩) := hp.1; have c0 := keep_cell v0 hG; refine wp_yields (v := .int .u16 (f 0)) ?_ ⟨_, rfl, rfl, Below.refl _ _, hG⟩; simp [slotOf] at h58; simp [execOp, go_sem, h58, c0]
        ·intro a W hG hR hO hp
         have h57 : slotOf a 57 = rgV bd.fr := hp.1
         have h59 : slotOf a 59 = .int .u16 (f 0) := hp.2.1
         refine wp_enters (f := 38) (args := #[rgV bd.fr, .int .u16 (f 0)]) ?_ ((HP0.out W).mono ?_)
         ·simp [slotOf] at h57 h59
          simp [go_sem, h57, h59]
         ·rintro e w' ⟨n, rfl, h1, h2, hb⟩
          exact ⟨_, rfl, _, rfl, ⟨n, rfl, h1, h2⟩, hb, below_next hG hb⟩
        ·intro a W hG hR hO hp; have h9 := hO.slot 9 (by kernel_rfl); refine wp_yields (v := .pointer (some ⟨g, 4, none⟩)) ?_ ⟨_, rfl, rfl, Below.refl _ _, hG⟩; simp [slotOf] at h9; simp [execOp, go_sem, h9]
        ·intro a W hG hR hO hp; have h61 : slotOf a 61 = .pointer (some ⟨g, 4, none⟩) := hp.1; have c0 := keep_cell z4 hG; have c1 := keep_cell z5 hG; refine wp_yields (v := rgV bd.co) ?_ ⟨_, rfl, rfl, Below.refl _ _, hG⟩; simp [slotOf] at h61; simp [execOp, go_sem, h61, c0, c1]
        ·intro a W hG hR hO hp; have h10 := hO.slot 10 (by kernel_rfl); refine wp_yields (v := .pointer (some ⟨ab, 1, none⟩)) ?_ ⟨_, rfl, rfl, Below.refl _ _, hG⟩; simp [slotOf] at h10; simp [execOp, go_sem, h10]
        ·intro a W hG hR hO hp; have h63 : slotOf a 63 = .pointer (some ⟨ab, 1, none⟩) := hp.1; have c0 := keep_cell v1 hG; refine wp_yields (v := .int .u16 (f 1)) ?_ ⟨_, rfl, rfl, Below.refl _ _, hG⟩; simp [slotOf] at h63; simp [execOp, go_sem, h63, c0]
        ·intro a W hG hR hO hp
         have h62 : slotOf a 62 = rgV bd.co := hp.1
         have h64 : slotOf a 64 = .int .u16 (f 1) := hp.2.1
         refine wp_enters (f := 38) (args := #[rgV bd.co, .int .u16 (f 1)]) ?_ ((HP1.out W).mono ?_)
         ·simp [slotOf] at h62 h64
          simp [go_sem, h62, h64]
         ·rintro e w' ⟨n, rfl, h1, h2, hb⟩
          exact ⟨_, rfl, _, rfl, ⟨n, rfl, h1, h2⟩, hb, below_next hG hb⟩
        ·intro a W hG hR hO hp; have h9 := hO.slot 9 (by kernel_rfl); refine wp_yields (v := .pointer (some ⟨g, 6, none⟩)) ?_ ⟨_, rfl, rfl, Below.refl _ _, hG⟩; simp [slotOf] at h9; simp [execOp, go_sem, h9]
        ·intro a W hG hR hO hp; have h66 : slotOf a 66 = .pointer (some ⟨g, 6, none⟩) := hp.1; have c0 := keep_cell z6 hG; have c1 := keep_cell z7 hG; refine wp_yields (v := rgV bd.wa) ?_ ⟨_, rfl, rfl, Below.refl _ _, hG⟩; simp [slotOf] at h66; simp [execOp, go_sem, h66, c0, c1]
        ·intro a W hG hR hO hp; have h10 := hO.slot 10 (by kernel_rfl); refine wp_yields (v := .pointer (some ⟨ab, 2, none⟩)) ?_ ⟨_, rfl, rfl, Below.refl _ _, hG⟩; simp [slotOf] at h10; simp [execOp, go_sem, h10]
        ·intro a W hG hR hO hp; have h68 : slotOf a 68 = .pointer (some ⟨ab, 2, none⟩) := hp.1; have c0 := keep_cell v2 hG; refine wp_yields (v := .int .u16 (f 2)) ?_ ⟨_, rfl, rfl, Below.refl _ _, hG⟩; simp [slotOf] at h68; simp [execOp, go_sem, h68, c0]
        ·intro a W hG hR hO hp
         have h67 : slotOf a 67 = rgV bd.wa := hp.1
         have h69 : slotOf a 69 = .int .u16 (f 2) := hp.2.1
         refine wp_enters (f := 38) (args := #[rgV bd.wa, .int .u16 (f 2)]) ?_ ((HP2.out W).mono ?_)
         ·simp [slotOf] at h67 h69
          simp [go_sem, h67, h69]
         ·rintro e w' ⟨n, rfl, h1, h2, hb⟩
          exact ⟨_, rfl, _, rfl, ⟨n, rfl, h1, h2⟩, hb, below_next hG hb⟩
        ·intro a W hG hR hO hp; have h60 := hp.1; have h65 := hp.2.1; have h70 := hp.2.2.1; obtain ⟨n0, h60, g1, g2⟩ := h60; obtain ⟨n1, h65, g3, g4⟩ := h65; obtain ⟨n2, h70, g5, g6⟩ := h70; refine wp_yields (v := rlV ⟨n0, n1, n2⟩) ?_ ⟨_, rfl, ⟨⟨n0, n1, n2⟩, rfl, by simp [fitB, inB]; omega⟩, Below.refl _ _, hG⟩; simp [slotOf] at h60 h65 h70; simp [execOp, go_sem, h60, h65, h70]
        ·intro a W hG hR hO hp; have h71 := hp.1; obtain ⟨y, h71, hy⟩ := h71; refine wp_makes (v := .slice (some ⟨W.heap.size, 0, none⟩) 1 1) (W' := W.alloc (.cells (rlC y) 111)) ?_ ⟨_, rfl, ⟨_, y, rfl, hG.size, Whole.made _ _ _, hy⟩, newer_allocH _ _, below_next hG (newer_allocH _ _)⟩; simp [slotOf] at h71; simp [execOp, go_sem, h71]
       ·intro wy hG hR
        rintro _ rfl _ rfl _ rfl _ rfl _ rfl _ - _ rfl _ rfl _ rfl _ rfl _ - _ rfl _ rfl _ rfl _ rfl _ - _ - _ ⟨nb, y, rfl, hnb, hW, hyf⟩
        change wpList _ _ _ _ _ _
        simp only [Act.put, List.setIfInBounds_toArray, List.set_cons_zero, List.set_cons_succ, List.drop_succ_cons, List.drop_zero]
        have HO := Lib.hid (own_below HQ.out.1.own hG)
        have HN := Lib.hid (HQ.out.1.next hG)
        have HWN := Lib.hid (World.news_of_block hW)
        have HYF := Lib.hid hyf
        clear hG hR hW z2 z3 z4 z5 z6 z7 v0 v1 v2 hyf HP0 HP1 HP2
        go_wp2_with (at_builtin; go_loud ((refine wpList_append_lies _ rfl (.tmp 55) (.tmp 72) 64 rfl w.heap.size 111 i0 (.agg #[vi 0, vi 0, vi 0]) 3 24 Try.underlying64 HI.out.1 HI.out.2.1 HI.out.2.2.1 HI.out.2.2.2 rfl (by omega) _ k _ rfl HO.out ⟨nb, 0, none⟩ 1 1 (rlL y) rfl rfl HWN.out (by simp [Value.oneCell']) (by omega) (by unfold maxLen; omega) (by omega) HN.out.nw.size wy.heap.size rfl ?_); intro gg cp2 w2 hown2 hgrow2 hat2 hlt2; have HE := Lib.hid (And.intro hown2 (And.intro hgrow2 (own_ge HO.out))); clear hown2 hgrow2 hat2 hlt2))
        refine ⟨⟨k + 1, tl ++ [y], some ⟨gg, 0, none⟩, cp2, rfl, by omega, rfl, ?_, ?_, ?_, ?_, ?_, ?_⟩, ?_⟩
        ·exact below_grown (grown_trans' (grown_of_newer HN.out.nw _) HE.out.2.1) HE.out.2.2 (Nat.le_refl _)
        ·exact HN.out.xb.grown HE.out.2.1 (fun e => own_ne HO.out HN.out.xb (by decide) e.symm)
        ·exact HN.out.ub.grown HE.out.2.1 (fun e => own_ne HO.out HN.out.ub (by decide) e.symm)
        ·rw [List.flatMap_append, List.flatMap_singleton]
         exact HE.out.1
        ·rw [List.length_append, HN.out.ln]; rfl
        ·intro i hi
         by_cases h : i = k
         ·rw [h, HGE.out]
          have e9 : (tl ++ [y]).getD k ⟨0, 0, 0⟩ = y := by simp [List.getD, <- HN.out.ln]
          rw [e9]
          exact HYF.out
         ·have h1 := HN.out.fit i (by omega)
          have e9 : (tl ++ [y]).getD i ⟨0, 0, 0⟩ = tl.getD i ⟨0, 0, 0⟩ := by simp [List.getD, List.getElem?_append_left (show i < tl.length by rw [HN.out.ln]; omega)]
          rw [e9]
          exact h1
        ·simp [intOf]
         omega
  ·obtain rfl : k = l.length := by omega
   have HE := Lib.hid (show Row rlL 3 wr wr.heap.size A tl by
    have e := HJ.out.own
    rw [<- HJ.out.ln] at e
    exact row_of_own (enc := rlL) (size := 3) (by omega) (fun _ => rfl) e)
   have HFT : Hid (fitsA bs tl = true) := Lib.hid (fitsA_iff.2 ⟨by rw [HJ.out.ln, HBS.out.2], fun i hi => HJ.out.fit i (by have := HBS.out.2; omega)⟩)
   have HLN := Lib.hid HJ.out.ln
   clear hx hu2
   go_wp2_with fail
   go_ret
   exact ⟨tl, A, c, by rw [HLN.out]; rfl, HE.out, HFT.out, hn⟩
end

section
open Go.RowKit Go.Shelf Go.Deep
def wE (s : Sd) : Int := match worstS s with
 | none => 7
 | some _ => 0
def wV (s : Sd) : Int := match worstS s with
 | none => 0
 | some (_, v) => v
theorem worst_num (s : Sm) (w : World) (hok : SmOk s w) (few : SmFew s) (hs : SdOk s.sd) : Calls Try.prog 9 #[smV s] w fun e w' => ∃ (a : Int) (A : Option Addr) (n c : Nat), e = .returned (.tuple #[.agg #[vi a, .slice A n c], vi (wV s.sd), vi (wE s.sd)]) /\ newer w w' := by
 refine (worst_any s w hok few).mono ?_
 rintro e w' ⟨h1, h2⟩
 unfold worstOut at h1
 unfold wV wE
 rw [sdOk_iff.2 hs] at h1
 cases hw : worstS s.sd with
 | none =>
  rw [hw] at h1
  exact ⟨_, _, _, _, h1, h2⟩
 | some q =>
  obtain ⟨⟨k, l⟩, v⟩ := q
  rw [hw] at h1
  obtain ⟨A, c, h3, _⟩ := h1
  exact ⟨_, _, _, _, h3, h2⟩
theorem worst_of {s : Sd} (q : Option ((Nat × List Nat) × Int)) (h : worstS s = q) : (q = none /\ wE s = 7 /\ wV s = 0) ∨ ∃ u v, q = some (u, v) /\ wE s = 0 /\ wV s = v := by
 unfold wE wV
 rw [h]
 cases q with
 | none => exact .inl ⟨rfl, rfl, rfl⟩
 | some q => exact .inr ⟨_, _, rfl, rfl, rfl⟩
theorem wE_is (s : Sd) : wE s = 0 ∨ wE s = 7 := by
 rcases worst_of _ (rfl : worstS s = worstS s) with ⟨_, h, _⟩ | ⟨_, _, _, h, _⟩
 ·exact .inr h
 ·exact .inl h
theorem few_of {s : Sm} (h : SdOk s.sd) : SmFew s := by
 have h1 := h.cols
 have h2 := h.beds
 rw [sd_len] at h1
 refine ⟨by omega, fun x hx => ?_⟩
 have h3 := h.len x.beds (List.mem_map.2 ⟨x, hx, rfl⟩)
 omega
theorem slope_chain (s : Sm) (d : Sd) (w : World) (hok : SmOk s w) (hd : s.sd = d) (hs : SdOk d) : Calls Try.prog 10 #[smV s] w fun e w' => ∃ s2 : Sm, e = .returned (smV s2) /\ (∀ W, newer w' W -> Calls Try.prog 9 #[smV s2] W fun e w3 => ∃ (a : Int) (A : Option Addr) (n c : Nat), e = .returned (.tuple #[.agg #[vi a, .slice A n c], vi (wV d), vi (wE d)]) /\ newer W w3) /\ newer w w' := by
 subst hd
 refine (lawSlope s w hok (few_of hs)).mono ?_
 rintro e w' ⟨s2, rfl, h1, h2, h3⟩
 refine ⟨s2, rfl, fun W hW => ?_, h3⟩
 have h4 := worst_num s2 W (h2.next hW) (few_of (by rw [h1]; exact hs)) (by rw [h1]; exact hs)
 rw [h1] at h4
 exact h4
theorem row_nats {w : World} {B : Nat} {A : Option Addr} {c : Nat} {l : List Nat} {L : List Int} (hL : L = l.map fun x : Nat => (x : Int)) (h : w.ownsRow B 3 1 (.slice A l.length c) l.length (l.map fun x : Nat => vi x)) : L.length = l.length /\ Row intL 1 w w.heap.size A L := by
 have e2 : L.length = l.length := by rw [hL, List.length_map]
 have e1 : (l.map fun x : Nat => vi x) = L.flatMap intL := by rw [hL, <- map_intL, List.map_map]; rfl
 rw [e1, <- e2] at h
 exact ⟨e2, row_of_own (enc := intL) (size := 1) (by omega) (fun _ => rfl) h⟩
end

section
open Go.RowKit Go.Shelf Go.Deep
def spanE (s : Sd) (frm : Int) (l : List Int) : Int := if checkUN s frm l = 0 then (if dK (bedsU s frm l) (bedsU s frm l).length < 1 then 7 else 0) else checkUN s frm l
def spanP (s : Sd) (frm : Int) (l : List Int) (hi : Bool) : Int := if spanE s frm l = 0 then facE (bedsU s frm l) hi else 0
def vSlo (d : Sd) (v : Value) (W : World) : Prop := ∃ s : Sm, v = smV s /\ s.sd = d /\ SmOk s W
theorem vSlo_st {d : Sd} : ∀ v W W', vSlo d v W -> newer W W' -> vSlo d v W' := fun _ _ _ ⟨s, h1, h2, h3⟩ hb => ⟨s, h1, h2, h3.next hb⟩
def vSuf (frm : Int) (l : List Int) (v : Value) (W : World) : Prop := ∃ u : Su, v = suV u /\ u.frm = frm /\ u.beds = l /\ SuOk u W
theorem vSuf_st {frm : Int} {l : List Int} : ∀ v W W', vSuf frm l v W -> newer W W' -> vSuf frm l v W' := fun _ _ _ ⟨u, h1, h2, h3, h4⟩ hb => ⟨u, h1, h2, h3, h4.next hb⟩
theorem few_sd {s s2 : Sm} (h : s2.sd = s.sd) (f : SmFew s) : SmFew s2 := by
 have hc : s2.cs.map (fun x => x.beds) = s.cs.map (fun x => x.beds) := congrArg Sd.cols h
 refine ⟨by have := congrArg List.length hc; simp at this; rw [this]; exact f.cs, fun x hx => ?_⟩
 have hm : x.beds ∈ s.cs.map (fun x => x.beds) := by rw [<- hc]; exact List.mem_map.2 ⟨x, hx, rfl⟩
 obtain ⟨y, hy, hxy⟩ := List.mem_map.1 hm
 rw [<- hxy]
 exact f.bd y hy
end

section
open Go.RowKit Go.Shelf Go.Deep
theorem hK_cons (x : Bd) (bs : List Bd) (tr : Nat -> Rl) : ∀ m, hK (x :: bs) tr (m + 1) = holdsN x (tr 0) + hK bs (fun i => tr (i + 1)) m
 | 0 => by simp [hK, List.getD]
 | m + 1 => by
  rw [hK, hK_cons x bs tr m]
  simp [hK, List.getD]
  omega
theorem dK_cons (x : Bd) (bs : List Bd) : ∀ m, dK (x :: bs) (m + 1) = x.drive + dK bs m
 | 0 => by simp [dK, List.getD]
 | m + 1 => by
  rw [dK, dK_cons x bs m]
  simp [dK, List.getD]
  omega
theorem hK_sum (s : Sd) (hi : Bool) : ∀ (l : List Nat) (k : Nat), hK (bedsL s.cols k l) (fun i => endR hi ((bedsL s.cols k l).getD i zeroBd)) l.length = sumH (hAt hi s) k l
 | [], _ => rfl
 | b :: t, k => by
  show hK (bdAt s.cols k b :: bedsL s.cols (k + 1) t) (fun i => endR hi ((bdAt s.cols k b :: bedsL s.cols (k + 1) t).getD i zeroBd)) (t.length + 1) = hAt hi s k b + sumH (hAt hi s) (k + 1) t
  rw [hK_cons]
  have ih := hK_sum s hi t (k + 1)
  have e : holdsN (bdAt s.cols k b) (endR hi (bdAt s.cols k b)) = hAt hi s k b := by
   unfold bdAt hAt
   cases bedAt s.cols k b with
   | none => cases hi <;> decide
   | some x => rfl
  simp only [List.getD_cons_zero, List.getD_cons_succ]
  rw [ih, e]
theorem dK_sum (s : Sd) : ∀ (l : List Nat) (k : Nat), dK (bedsL s.cols k l) l.length = sumH (dAt s) k l
 | [], _ => rfl
 | b :: t, k => by
  show dK (bdAt s.cols k b :: bedsL s.cols (k + 1) t) (t.length + 1) = dAt s k b + sumH (dAt s) (k + 1) t
  rw [dK_cons, dK_sum s t (k + 1)]
  have e : (bdAt s.cols k b).drive = dAt s k b := by
   unfold bdAt dAt
   cases bedAt s.cols k b with
   | none => rfl
   | some x => rfl
  rw [e]
end

section
open Go.RowKit Go.Shelf Go.Deep
theorem hK_le {bs : List Bd} {tr tr' : Nat -> Rl} : ∀ k, (∀ i, i < k -> holdsN (bs.getD i zeroBd) (tr i) <= holdsN (bs.getD i zeroBd) (tr' i)) -> hK bs tr k <= hK bs tr' k
 | 0, _ => Int.le_refl _
 | k + 1, h => by
  have h1 := hK_le (bs := bs) (tr := tr) (tr' := tr') k (fun i hi => h i (by omega))
  have h2 := h k (by omega)
  simp only [hK]
  omega
theorem hK_eq {bs : List Bd} {tr tr' : Nat -> Rl} (k : Nat) (h : ∀ i, i < k -> tr i = tr' i) : hK bs tr k = hK bs tr' k :=
 Int.le_antisymm (hK_le k (fun i hi => by rw [h i hi]; exact Int.le_refl _)) (hK_le k (fun i hi => by rw [h i hi]; exact Int.le_refl _))
theorem ends_get {bs : List Bd} {hi : Bool} {i : Nat} (h : i < bs.length) : (bs.map (endR hi)).getD i ⟨0, 0, 0⟩ = endR hi (bs.getD i zeroBd) := by
 obtain ⟨b, hb⟩ := get_of_lt h
 simp [List.getD, hb]
theorem ends_fit {bs : List Bd} (hb : ∀ b ∈ bs, bdB b = true) (hi : Bool) : fitsA bs (bs.map (endR hi)) = true := by
 refine fitsA_iff.2 ⟨by rw [List.length_map], fun i h => ?_⟩
 obtain ⟨b, hb2⟩ := get_of_lt h
 rw [ends_get h]
 have hge : bs.getD i zeroBd = b := by simp [List.getD, hb2]
 rw [hge]
 exact fit_end (hb b (List.mem_of_getElem? hb2)) hi
theorem fits_hK {bs : List Bd} (hb : ∀ b ∈ bs, bdB b = true) {tl : List Rl} (hf : fitsA bs tl = true) : hK bs (fun i => endR false (bs.getD i zeroBd)) bs.length <= hK bs (fun i => tl.getD i ⟨0, 0, 0⟩) bs.length /\ hK bs (fun i => tl.getD i ⟨0, 0, 0⟩) bs.length <= hK bs (fun i => endR true (bs.getD i zeroBd)) bs.length := by
 have h := (fitsA_iff.1 hf).2
 have h1 : ∀ i, i < bs.length -> bdB (bs.getD i zeroBd) = true := fun i hi => by
  obtain ⟨b, hb2⟩ := get_of_lt hi
  have hge : bs.getD i zeroBd = b := by simp [List.getD, hb2]
  rw [hge]
  exact hb b (List.mem_of_getElem? hb2)
 exact ⟨hK_le _ (fun i hi => (fit_mono (h1 i hi) (h i hi)).1), hK_le _ (fun i hi => (fit_mono (h1 i hi) (h i hi)).2)⟩
theorem hK_nonneg {bs : List Bd} (hb : ∀ b ∈ bs, bdB b = true) (hi : Bool) : 0 <= hK bs (fun i => endR hi (bs.getD i zeroBd)) bs.length :=
 (hK_bd (l := bs) (tr := fun i => endR hi (bs.getD i zeroBd)) bs.length (Nat.le_refl _) hb (fun i hi2 => by
  obtain ⟨b, hb2⟩ := get_of_lt hi2
  have e : bs.getD i zeroBd = b := by simp [List.getD, hb2]
  rw [e]
  exact end_rlB (hb b (List.mem_of_getElem? hb2)) hi)).1
structure SurfK (s : Sd) (frm : Int) (l : List Int) (e r0 r1 : Int) : Prop where
 ck : checkUN s frm l = 0
 sp : spanE s frm l = e /\ spanP s frm l false = r0 /\ spanP s frm l true = r1
 fit : ∀ tl, fitsA (bedsU s frm l) tl = true -> (e = 7 -> facO s frm l tl = (0, 7)) /\ (e = 0 -> (facO s frm l tl).2 = 0 /\ r0 <= (facO s frm l tl).1 /\ (facO s frm l tl).1 <= r1)
 ends : e = 0 -> facO s frm l ((bedsU s frm l).map (endR false)) = (r0, 0) /\ facO s frm l ((bedsU s frm l).map (endR true)) = (r1, 0)
 low : e = 0 -> wE s = 0 /\ wV s <= r0
 eor : e = 7 ∨ e = 0
theorem surf_known {s : Sm} (hs : SdOk s.sd) {frm : Int} {l : List Int} {k0 : Nat} {m : List Nat} (hf : frm = (k0 : Nat)) (hl : l = m.map fun x : Nat => (x : Int)) (hsf : SurfB s.sd.n s.cs.length s.sd.K k0 m) : bedsU s.sd frm l = bedsL s.sd.cols k0 m /\ ∃ e r0 r1, SurfK s.sd frm l e r0 r1 := by
 have hsf' : SurfB s.sd.n s.sd.cols.length s.sd.K k0 m := by rw [sd_len]; exact hsf
 have hck : checkUN s.sd frm l = 0 := by
  unfold checkUN
  rw [sdOk_iff.2 hs, hf, hl, (surfB_nat hs).2 hsf']
  rfl
 have eb : bedsU s.sd frm l = bedsL s.sd.cols k0 m := by
  unfold bedsU
  rw [hf, hl, List.map_map]
  have e1 : (Int.toNat ∘ fun x : Nat => (x : Int)) = id := by funext x; simp
  rw [e1, List.map_id, Int.toNat_natCast]
 refine ⟨eb, ?_⟩
 have hbo := bedsL_ok hs hsf.2.2 hsf.2.1
 have hbl := bedsL_len s.sd.cols m k0
 obtain ⟨bs, hbs⟩ : ∃ bs, bs = bedsL s.sd.cols k0 m := ⟨_, rfl⟩
 rw [<- hbs] at eb hbo hbl
 have hfac : ∀ tl, fitsA bs tl = true -> facO s.sd frm l tl = if dK bs bs.length < 1 then (0, 7) else (factorN (hK bs (fun i => tl.getD i ⟨0, 0, 0⟩) bs.length) (dK bs bs.length), 0) := fun tl h => by
  unfold facO
  rw [hck, if_pos rfl, eb, if_pos h]
 by_cases hd : dK bs bs.length < 1
 ·have he : spanE s.sd frm l = 7 := by unfold spanE; rw [hck, if_pos rfl, eb, if_pos hd]
  have hp : ∀ hi, spanP s.sd frm l hi = 0 := fun hi => by unfold spanP; rw [he, if_neg (by decide)]
  exact ⟨7, 0, 0, hck, ⟨he, hp _, hp _⟩, fun tl h => ⟨fun _ => by rw [hfac tl (by rw [eb] at h; exact h), if_pos hd], fun h => absurd h (by decide)⟩, fun h => absurd h (by decide), fun h => absurd h (by decide), .inl rfl⟩
 ·have he : spanE s.sd frm l = 0 := by unfold spanE; rw [hck, if_pos rfl, eb, if_neg hd]
  have hp : ∀ hi, spanP s.sd frm l hi = facE bs hi := fun hi => by unfold spanP; rw [he, if_pos rfl, eb]
  have hend : ∀ hi, facO s.sd frm l (bs.map (endR hi)) = (facE bs hi, 0) := fun hi => by
   rw [hfac _ (ends_fit hbo hi), if_neg hd]
   unfold facE
   rw [hK_eq bs.length (fun i h => ends_get h)]
  refine ⟨0, facE bs false, facE bs true, hck, ⟨he, hp _, hp _⟩, fun tl h => ⟨fun h => absurd h (by decide), fun _ => ?_⟩, fun _ => by rw [eb]; exact ⟨hend _, hend _⟩, fun _ => ?_, .inr rfl⟩
  ·rw [eb] at h
   rw [hfac tl h, if_neg hd]
   have h1 := fits_hK hbo h
   have h2 := hK_nonneg hbo false
   exact ⟨rfl, factor_le h2 h1.1 (by omega) (Int.le_refl _), factor_le (by omega) h1.2 (by omega) (Int.le_refl _)⟩
  ·have hd2 : 1 <= sumH (dAt s.sd) k0 m := by rw [<- dK_sum, <- hbs, <- hbl]; omega
   have hfe : facE bs false = factorN (sumH (hAt false s.sd) k0 m) (sumH (dAt s.sd) k0 m) := by
    unfold facE
    rw [hbl, hbs, hK_sum, dK_sum]
   rcases worst_of _ (rfl : worstS s.sd = worstS s.sd) with ⟨h1, _, _⟩ | ⟨⟨k, l'⟩, v, h1, h2, h3⟩
   ·exact absurd hd2 (worst_none (hd_ok hs false) h1 k0 m hsf')
   ·refine ⟨h2, ?_⟩
    rw [h3, hfe]
    exact (worst_some (hd_ok hs false) h1).2.2.2 k0 m hsf' hd2
end

section
theorem wV_bd {s : Sd} (hs : SdOk s) : 0 <= wV s /\ wV s <= 10000 := by
 rcases worst_of _ (rfl : worstS s = worstS s) with ⟨_, _, h⟩ | ⟨⟨k, l⟩, v, h1, h2, h3⟩
 ·omega
 ·obtain ⟨_, h5, h6, _⟩ := worst_some (hd_ok hs false) h1
  rw [h3, <- h6]
  exact factor_bd (sumH_nonneg (hd_ok hs false).h0 _ _) h5
theorem spanP_le (s : Sd) (frm : Int) (l : List Int) (hi : Bool) : spanP s frm l hi <= 10000 := by
 unfold spanP
 split
 ·unfold facE factorN mnI
  split <;> omega
 ·exact (by decide : (0 : Int) <= 10000)
def lkO (f : Int) (s : Sd) : Int := if wE s = 0 then mxI 0 (f - wV s) else 0
def lkA (f : Int) (ss : List Sm) (j : Nat) : Int := match ss[j]? with
 | some s => lkO f s.sd
 | none => 0
theorem lkO_bd {f : Int} {s : Sd} (hf : f <= 10000) (hs : SdOk s) : 0 <= lkO f s /\ lkO f s <= 10000 := by
 have := wV_bd hs
 unfold lkO mxI
 split
 ·split <;> omega
 ·omega
theorem lkA_bd {f : Int} {ss : List Sm} {n j : Nat} (hf : f <= 10000) (hs : ∀ (i : Nat) (s : Sm), i < n -> ss[i]? = some s -> SdOk s.sd) (hj : j < n) : 0 <= lkA f ss j /\ lkA f ss j <= 10000 := by
 unfold lkA
 cases e : ss[j]? with
 | none => exact ⟨Int.le_refl _, (by decide : (0 : Int) <= 10000)⟩
 | some s => exact lkO_bd hf (hs j s hj e)
def lkL (f : Int) (ss : List Sm) (n i : Nat) : List Int := (List.range n).map fun j => if j < i then lkA f ss j else 0
theorem lkL_len (f : Int) (ss : List Sm) (n i : Nat) : (lkL f ss n i).length = n := by unfold lkL; rw [List.length_map, List.length_range]
theorem lkL_get {f : Int} {ss : List Sm} {n i j : Nat} (hj : j < n) : (lkL f ss n i)[j]? = some (if j < i then lkA f ss j else 0) := by
 unfold lkL
 rw [List.getElem?_map, List.getElem?_range hj]
 rfl
theorem lkL_zero (f : Int) (ss : List Sm) (n : Nat) : lkL f ss n 0 = List.replicate n 0 := by
 apply List.ext_getElem?
 intro j
 by_cases hj : j < n
 ·rw [lkL_get hj, List.getElem?_replicate, if_pos hj, if_neg (by omega)]
 ·rw [List.getElem?_eq_none (by rw [lkL_len]; omega), List.getElem?_eq_none (by rw [List.length_replicate]; omega)]
theorem lkL_set {f : Int} {ss : List Sm} {n i : Nat} (hi : i < n) : (lkL f ss n i).set i (lkA f ss i) = lkL f ss n (i + 1) := by
 apply List.ext_getElem?
 intro j
 rw [List.getElem?_set, lkL_len]
 by_cases hj : j < n
 ·rw [lkL_get hj, lkL_get hj]
  by_cases e : i = j
  ·subst e
   rw [if_pos rfl, if_pos hj, if_pos (by omega)]
  ·rw [if_neg e]
   by_cases h2 : j < i
   ·rw [if_pos h2, if_pos (by omega)]
   ·rw [if_neg h2, if_neg (by omega)]
 ·rw [if_neg (by omega), List.getElem?_eq_none (by rw [lkL_len]; omega), List.getElem?_eq_none (by rw [lkL_len]; omega)]
theorem lkL_keep {f : Int} {ss : List Sm} {n i : Nat} (hi : i < n) (h : lkA f ss i = 0) : lkL f ss n i = lkL f ss n (i + 1) := by
 rw [<- lkL_set hi]
 apply List.ext_getElem?
 intro j
 rw [List.getElem?_set, lkL_len]
 by_cases e : i = j
 ·subst e
  rw [if_pos rfl, if_pos hi, lkL_get hi, if_neg (by omega), h]
 ·rw [if_neg e]
def ndO (f : Int) (ss : List Sm) (n : Nd) : Option Nd := if 0 < lkA f ss n.slope.toNat then some ⟨n.slope, n.year, lkA f ss n.slope.toNat⟩ else none
def ndK (f : Int) (ss : List Sm) (ns : List Nd) (j : Nat) : List Nd := (ns.take j).filterMap (ndO f ss)
theorem ndK_next {f : Int} {ss : List Sm} {ns : List Nd} {j : Nat} {n : Nd} (h : ns[j]? = some n) : ndK f ss ns (j + 1) = ndK f ss ns j ++ (ndO f ss n).toList := by
 unfold ndK
 rw [List.take_add_one, h, List.filterMap_append]
 cases e : ndO f ss n <;> simp [e]
theorem ndK_len (f : Int) (ss : List Sm) (ns : List Nd) (j : Nat) : (ndK f ss ns j).length <= j := by
 unfold ndK
 refine Nat.le_trans (List.length_filterMap_le _ _) ?_
 rw [List.length_take]
 exact Nat.min_le_left _ _
def heldQ (q : Pj) (f : Int) (ss : List Sm) : Pj := ⟨q.years, q.slopes, q.works, ndK f ss q.needs q.needs.length, q.villages, q.purses⟩
theorem held_mem {q : Pj} {f : Int} {ss : List Sm} {m : Nd} : m ∈ (heldQ q f ss).needs ↔ ∃ n ∈ q.needs, ndO f ss n = some m := by
 unfold heldQ ndK
 rw [List.take_length, List.mem_filterMap]
theorem ndB_parts {y s : Int} {n : Nd} (h : ndB y s n = true) : (0 <= n.slope /\ n.slope <= s - 1) /\ (0 <= n.year /\ n.year <= y - 1) /\ 1 <= n.due /\ n.due <= 10000 := by
 unfold ndB inB at h
 simp only [Bool.and_eq_true, decide_eq_true_eq] at h
 exact ⟨h.1.1, h.1.2, h.2⟩
theorem held_thin {q : Pj} {f : Int} {ss : List Sm} (h : thinP q = true) : thinP (heldQ q f ss) = true := by
 unfold thinP at h ⊢
 simp only [Bool.and_eq_true, decide_eq_true_eq] at h ⊢
 exact ⟨⟨⟨⟨h.1.1.1.1, h.1.1.1.2⟩, Nat.le_trans (Nat.le_trans (ndK_len f ss q.needs q.needs.length) (Nat.le_refl _)) h.1.1.2⟩, h.1.2⟩, h.2⟩
theorem held_fault {q : Pj} {f : Int} {ss : List Sm} {n : Nat} (h : FaultOk q) (hn : q.slopes = (n : Nat)) (hf : f <= 10000) (hs : ∀ (i : Nat) (s : Sm), i < n -> ss[i]? = some s -> SdOk s.sd) : FaultOk (heldQ q f ss) := by
 refine ⟨h.wn, Nat.le_trans (ndK_len _ _ _ _) h.nn, h.vn, h.years, h.slopes, h.pn, h.ps, h.ws, fun m hm => ?_⟩
 obtain ⟨x, hx, e⟩ := held_mem.1 hm
 obtain ⟨h1, h2, _⟩ := ndB_parts (h.ns x hx)
 unfold ndO at e
 split at e
 ·rename_i h0
  injection e with e
  have hb := lkA_bd (j := x.slope.toNat) hf hs (by omega)
  rw [<- e]
  unfold ndB inB
  simp only [Bool.and_eq_true, decide_eq_true_eq]
  exact ⟨⟨h1, h2⟩, by show 1 <= lkA f ss x.slope.toNat; omega, hb.2⟩
 ·cases e
theorem zip_never {ws : List Wd} {m : Nat} : ∀ z ∈ (List.replicate m (-1 : Int)).zip ws, z.1 = -1 := fun _ hz => (List.mem_replicate.1 (List.of_mem_zip hz).1).2
theorem sum_zeros : ∀ {l : List Int}, (∀ z ∈ l, z = 0) -> l.sum = 0
 | [], _ => rfl
 | a :: l, h => by
  rw [List.sum_cons, h a List.mem_cons_self, sum_zeros fun z hz => h z (List.mem_cons_of_mem _ hz)]
  rfl
theorem sum_pos : ∀ {l : List Int}, (∀ z ∈ l, 0 <= z) -> 0 <= l.sum
 | [], _ => Int.le_refl _
 | a :: l, h => by
  rw [List.sum_cons]
  have := h a List.mem_cons_self
  have := sum_pos fun z hz => h z (List.mem_cons_of_mem _ hz)
  omega
theorem good_never {q : Pj} (h : FaultOk q) (hn : q.needs = []) : goodP q (List.replicate q.works.length (-1)) = true := by
 unfold goodP allowB
 rw [Bool.and_eq_true, Bool.and_eq_true, decide_eq_true_eq]
 refine ⟨⟨?_, ?_⟩, by unfold missP; rw [hn]; rfl⟩
 ·rw [List.all_eq_true]
  intro z hz
  unfold okS
  rw [zip_never z hz]
  rfl
 ·unfold paidB
  rw [List.all_eq_true]
  intro y _
  rw [decide_eq_true_eq]
  have h1 : ((spL q.works (List.replicate q.works.length (-1))).take (y + 1)).sum = 0 := sum_zeros fun z hz => by
   have hz := List.mem_of_mem_take hz
   unfold spL spK at hz
   obtain ⟨k, hk, rfl⟩ := List.mem_map.1 hz
   refine sum_zeros fun u hu => ?_
   have hu := List.mem_of_mem_take hu
   unfold spT at hu
   obtain ⟨v, hv, rfl⟩ := List.mem_map.1 hu
   rw [zip_never v hv, if_neg (by omega)]
  rw [h1]
  refine sum_pos fun z hz => ?_
  have := h.ps z (List.mem_of_mem_take hz)
  unfold inB at this
  simp only [Bool.and_eq_true, decide_eq_true_eq] at this
  omega
theorem cost_pos {q : Pj} (h : FaultOk q) (plan : List Int) : 0 <= costN q.works plan := by
 unfold costN
 refine sum_pos fun z hz => (costT_bd (ws := q.works) (plan := plan) (fun x hx => ?_) z hz).1
 have := h.ws x hx
 have h1 := (wdB_parts this).1
 omega
theorem held_none {q : Pj} (h : FaultOk q) (hn : q.needs = []) : bestE q = 0 /\ costOf (bestR q) = 0 := by
 have hf := faultOk_iff.2 h
 have hp : planB q.works (List.replicate q.works.length (-1)) = true := plan_iff.2 ⟨List.length_replicate, fun k y x hk _ => .inl (List.mem_replicate.1 (List.mem_of_getElem? hk)).2⟩
 have hg := good_never h hn
 have he : bestE q = 0 := by
  rw [bestE_of hf]
  cases hr : bestR q with
  | none =>
   have := (bestR_none hf).1 hr _ hp
   rw [hg] at this
   cases this
  | some z => rfl
 refine ⟨he, ?_⟩
 obtain ⟨_, _, h3, h4, _⟩ := some_best hf he
 have h5 := h4 (List.replicate q.works.length (-1)) (by rw [suffB_good hf, hp, hg]; rfl)
 have h6 := cost_pos h (bestL q)
 have h7 : costN q.works (List.replicate q.works.length (-1)) = 0 := sum_zeros fun z hz => by
  unfold costT at hz
  obtain ⟨v, hv, rfl⟩ := List.mem_map.1 hz
  rw [zip_never v hv, if_neg (by omega)]
 omega
theorem bestE_two {q : Pj} (hf : faultN q = 0) : bestE q = 0 ∨ bestE q = 9 := by
 rw [bestE_of hf]
 split
 ·exact .inl rfl
 ·exact .inr rfl
theorem tog_pos {q : Pj} (h : FaultOk q) {s : Nat} (hs : (s : Int) < q.slopes) (y : Int) (plan : List Int) : 0 <= togN false s y q.works plan :=
 sum_pos fun z hz => (togL_bd (hi := false) h.ws hs z hz).1
theorem tog_top {q : Pj} (h : FaultOk q) {s : Nat} (hs : (s : Int) < q.slopes) (y : Int) {plan : List Int} (hl : plan.length = q.works.length) (hi : Bool) : togN hi s y q.works plan <= 100000 := by
 have hb := togL_bd (hi := hi) (plan := plan) (year := y) h.ws hs
 have hlen : (togL hi s y q.works plan).length = q.works.length := togL_len hl
 have key : ∀ (l : List Int), (∀ z ∈ l, z <= 10000) -> l.sum <= 10000 * l.length := by
  intro l
  induction l with
  | nil => intro _; exact Int.le_refl _
  | cons a l ih =>
   intro hz
   have h1 := hz a List.mem_cons_self
   have h2 := ih fun z hz' => hz z (List.mem_cons_of_mem _ hz')
   rw [List.sum_cons, List.length_cons]
   omega
 have h1 := key _ fun z hz => (hb z hz).2
 have h2 := h.wn
 unfold togN
 rw [hlen] at h1
 omega
theorem held_law {q : Pj} {f : Int} {ss : List Sm} {n : Nat} (h : FaultOk q) (hn : q.slopes = (n : Nat)) (hf : f <= 10000) (hs : ∀ (i : Nat) (s : Sm), i < n -> ss[i]? = some s -> SdOk s.sd) (he : bestE (heldQ q f ss) = 0) :
  planB q.works (bestL (heldQ q f ss)) = true /\ ∀ m ∈ q.needs, lkA f ss m.slope.toNat <= togN false m.slope.toNat m.year q.works (bestL (heldQ q f ss)) := by
 have hq := held_fault h hn hf hs
 have hff := faultOk_iff.2 hq
 obtain ⟨h1, h2, _, _, _⟩ := some_best hff he
 refine ⟨h1, fun m hm => ?_⟩
 have hmb := ndB_parts (h.ns m hm)
 by_cases h0 : 0 < lkA f ss m.slope.toNat
 ·rw [suffB_good hff, Bool.and_eq_true] at h2
  have h3 := h2.2
  unfold goodP at h3
  rw [Bool.and_eq_true, decide_eq_true_eq] at h3
  have h4 := miss_zero h3.2 ⟨m.slope, m.year, lkA f ss m.slope.toNat⟩ (held_mem.2 ⟨m, hm, by unfold ndO; rw [if_pos h0]⟩)
  exact h4
 ·have := tog_pos h (s := m.slope.toNat) (by omega) m.year (bestL (heldQ q f ss))
  omega
end

section
open Go.RowKit Go.Shelf Go.Deep
def holP : Pj := ⟨1, 1, [⟨4, 0, 0, 0, -1, [⟨7, 9⟩]⟩], [⟨0, 0, 6⟩], [], [5]⟩
theorem hol_best : bestL holP = [0] /\ costOf (bestR holP) = 4 /\ bestE holP = 0 := by decide +kernel
set_option maxRecDepth 100000 in
set_option maxHeartbeats 4000000 in
theorem topHolds_any (w : World) : Calls Try.prog 6 #[] w fun e w' => e = .returned (.bool true) /\ newer w w' := by
 have H1 : Hid (newer w ((((w.alloc (.cells #[vi 5] 3)).alloc (.cells #[vi 7, vi 9] 67)).alloc (.cells #[vi 4, vi 0, vi 0, vi 0, vi (-1), .slice (some ⟨w.heap.size + 1, 0, none⟩) 1 1] 78)).alloc (.cells #[vi 0, vi 0, vi 6] 79)) /\ PmOk (⟨1, 1, [⟨⟨4, 0, 0, 0, -1, [⟨7, 9⟩]⟩, some ⟨w.heap.size + 1, 0, none⟩, 1⟩], some ⟨w.heap.size + 1 + 1, 0, none⟩, 1, [⟨0, 0, 6⟩], some ⟨w.heap.size + 1 + 1 + 1, 0, none⟩, 1, [], none, 0, [5], some ⟨w.heap.size, 0, none⟩, 1⟩ : Pm) ((((w.alloc (.cells #[vi 5] 3)).alloc (.cells #[vi 7, vi 9] 67)).alloc (.cells #[vi 4, vi 0, vi 0, vi 0, vi (-1), .slice (some ⟨w.heap.size + 1, 0, none⟩) 1 1] 78)).alloc (.cells #[vi 0, vi 0, vi 6] 79))) := Lib.hid (by
  have e1 := newer_allocH w (.cells #[vi 5] 3)
  have e2 := newer_allocH (w.alloc (.cells #[vi 5] 3)) (.cells #[vi 7, vi 9] 67)
  have e3 := newer_allocH ((w.alloc (.cells #[vi 5] 3)).alloc (.cells #[vi 7, vi 9] 67)) (.cells #[vi 4, vi 0, vi 0, vi 0, vi (-1), .slice (some ⟨w.heap.size + 1, 0, none⟩) 1 1] 78)
  have e4 := newer_allocH (((w.alloc (.cells #[vi 5] 3)).alloc (.cells #[vi 7, vi 9] 67)).alloc (.cells #[vi 4, vi 0, vi 0, vi 0, vi (-1), .slice (some ⟨w.heap.size + 1, 0, none⟩) 1 1] 78)) (.cells #[vi 0, vi 0, vi 6] 79)
  have a0 := (((Whole.made w 3 #[vi 5]).alloc (.cells #[vi 7, vi 9] 67)).alloc (.cells #[vi 4, vi 0, vi 0, vi 0, vi (-1), .slice (some ⟨w.heap.size + 1, 0, none⟩) 1 1] 78)).alloc (.cells #[vi 0, vi 0, vi 6] 79)
  have a1 := ((Whole.made (w.alloc (.cells #[vi 5] 3)) 67 #[vi 7, vi 9]).alloc (.cells #[vi 4, vi 0, vi 0, vi 0, vi (-1), .slice (some ⟨w.heap.size + 1, 0, none⟩) 1 1] 78)).alloc (.cells #[vi 0, vi 0, vi 6] 79)
  have a2 := (Whole.made ((w.alloc (.cells #[vi 5] 3)).alloc (.cells #[vi 7, vi 9] 67)) 78 #[vi 4, vi 0, vi 0, vi 0, vi (-1), .slice (some ⟨w.heap.size + 1, 0, none⟩) 1 1]).alloc (.cells #[vi 0, vi 0, vi 6] 79)
  have a3 := Whole.made (((w.alloc (.cells #[vi 5] 3)).alloc (.cells #[vi 7, vi 9] 67)).alloc (.cells #[vi 4, vi 0, vi 0, vi 0, vi (-1), .slice (some ⟨w.heap.size + 1, 0, none⟩) 1 1] 78)) 79 #[vi 0, vi 0, vi 6]
  simp only [World.size_alloc] at a1 a2 a3
  refine ⟨newer_trans (newer_trans (newer_trans e1 e2) e3) e4, row_of_whole (enc := wkL) (s := 6) (fun _ => rfl) a2 rfl, fun x hx => ?_, row_of_whole (enc := ndL) (s := 3) (fun _ => rfl) a3 rfl, Row.nil _, row_of_whole (enc := intL) (s := 1) (fun _ => rfl) a0 rfl⟩
  rw [List.mem_singleton.1 hx]
  exact row_of_whole (enc := rgLW) (s := 2) (fun _ => rfl) a1 rfl)
 have HB := Lib.hid (best_list (p := (⟨1, 1, [⟨⟨4, 0, 0, 0, -1, [⟨7, 9⟩]⟩, some ⟨w.heap.size + 1, 0, none⟩, 1⟩], some ⟨w.heap.size + 1 + 1, 0, none⟩, 1, [⟨0, 0, 6⟩], some ⟨w.heap.size + 1 + 1 + 1, 0, none⟩, 1, [], none, 0, [5], some ⟨w.heap.size, 0, none⟩, 1⟩ : Pm)) (q := holP) (w := ((((w.alloc (.cells #[vi 5] 3)).alloc (.cells #[vi 7, vi 9] 67)).alloc (.cells #[vi 4, vi 0, vi 0, vi 0, vi (-1), .slice (some ⟨w.heap.size + 1, 0, none⟩) 1 1] 78)).alloc (.cells #[vi 0, vi 0, vi 6] 79))) rfl H1.out.2 ⟨by simp, fun x hx => (by rw [List.mem_singleton.1 hx]; simp), by simp, by simp, by simp⟩ (by simp))
 rw [hol_best.1, hol_best.2.1, hol_best.2.2] at HB
 go_enter Try.func6, Try.ntmps6
 go_wp2_with fail
 refine (HB.out).mono ?_
 rintro e w2 ⟨⟨A, c, rfl, hr⟩, hb⟩
 obtain ⟨ab, ao, rfl, _, hc⟩ := row1 hr (k := 0) rfl
 have HN := Lib.hid (newer_trans H1.out.1 hb)
 clear hb hr HB H1
 rw [Nat.add_zero] at hc
 go_wp2_with fail
 go_ret
 exact ⟨rfl, HN.out⟩
end

section
open Go.RowKit Go.Shelf Go.Deep
structure PtJ (s : Sm) (ws : List Byt) (wa : Option Addr) (wc : Nat) (k : Nat) (l : List Nat) (A : Option Addr) (c ub : Nat) (w W : World) : Prop where
 nw : newer w W
 xb : Whole W w.heap.size 38 (smC s)
 wb : Whole W (w.heap.size + 1) 30 #[.slice wa ws.length wc]
 rb : Whole W (w.heap.size + 1 + 1) 57 #[vi 0, .slice none 0 0]
 bx : Whole W ub 57 #[vi k, .slice A l.length c]
 lo : w.heap.size + 1 + 1 < ub
 own : W.ownsRow w.heap.size 3 1 (.slice A l.length c) l.length (l.map fun x : Nat => vi x)
theorem PtJ.next {s : Sm} {ws : List Byt} {wa : Option Addr} {wc k : Nat} {l : List Nat} {A : Option Addr} {c ub : Nat} {w W W' : World} (h : PtJ s ws wa wc k l A c ub w W) (hb : newer W W') : PtJ s ws wa wc k l A c ub w W' :=
 ⟨newer_trans h.nw hb, h.xb.below hb h.xb.lt, h.wb.below hb h.wb.lt, h.rb.below hb h.rb.lt, h.bx.below hb h.bx.lt, h.lo, own_below h.own hb⟩
theorem PtJ.app {s : Sm} {ws : List Byt} {wa : Option Addr} {wc k : Nat} {l : List Nat} {A : Option Addr} {c ub : Nat} {w W W' : World} (h : PtJ s ws wa wc k l A c ub w W) {z g2 c2 : Nat}
  (hown : W'.ownsRow w.heap.size 3 1 (.slice (some ⟨g2, 0, none⟩) (l.length + 1) c2) (l.length + 1) ((l.map fun x : Nat => vi x) ++ [vi z])) (hw : (A = some ⟨g2, 0, none⟩ /\ c2 = c /\ W.grownBy W' (some g2)) ∨ (W.heap.size <= g2 /\ W.grownBy W' none)) :
  Whole W' ub 57 #[vi k, .slice A l.length c] /\ PtJ s ws wa wc k (l ++ [z]) (some ⟨g2, 0, none⟩) c2 ub w (W'.setCell ⟨ub, 1, none⟩ (.slice (some ⟨g2, 0, none⟩) (l.length + 1) c2)) := by
 have hgr : W.grownBy W' (Value.slice A l.length c).ownBlock := by
  rcases hw with ⟨h1, _, h3⟩ | ⟨_, h3⟩
  ·rw [h1]; exact h3
  ·exact h3.but _
 have k1 := h.xb.grown hgr (fun e => own_ne h.own h.xb (by decide) e.symm)
 have k2 := h.wb.grown hgr (fun e => own_ne h.own h.wb (by decide) e.symm)
 have k3 := h.rb.grown hgr (fun e => own_ne h.own h.rb (by decide) e.symm)
 have k4 := h.bx.grown hgr (fun e => own_ne h.own h.bx (by decide) e.symm)
 have hnw : newer w W' := by
  rcases hw with ⟨h1, _, h3⟩ | ⟨_, h3⟩
  ·exact Below.trans h.nw (below_of_grown h3 (own_ge h.own g2 (by rw [h1]; rfl)) h.nw.size)
  ·exact newer_trans h.nw (below_grown h3 (fun q e => by cases e) (Nat.le_refl _))
 have hlo := h.lo
 refine ⟨k4, hnw.setCell (p := ⟨ub, 1, none⟩) (by show w.heap.size <= ub; omega) _, k1.far (p := ⟨ub, 1, none⟩) (by show w.heap.size ≠ ub; omega) _, k2.far (p := ⟨ub, 1, none⟩) (by show w.heap.size + 1 ≠ ub; omega) _, k3.far (p := ⟨ub, 1, none⟩) (by show w.heap.size + 1 + 1 ≠ ub; omega) _, ?_, h.lo, ?_⟩
 ·rw [List.length_append]
  exact k4.set 1 _
 ·rw [List.length_append, List.map_append]
  exact own_set hown (own_ne hown k4 (by decide)) _
def vMod (m : Nat) (v : Value) (_ : World) : Prop := ∃ n : Nat, v = vi n /\ n < m
theorem vMod_st {m : Nat} : ∀ v W W', vMod m v W -> newer W W' -> vMod m v W' := fun _ _ _ h _ => h
def vBuild (m : Nat) (v : Value) (_ : World) : Prop := ∃ n : Nat, v = .agg #[vi n, .slice none 0 0] /\ n < m
theorem vBuild_st {m : Nat} : ∀ v W W', vBuild m v W -> newer W W' -> vBuild m v W' := fun _ _ _ h _ => h
def vPlus (a m : Nat) (v : Value) (_ : World) : Prop := ∃ n : Nat, v = vi n /\ a <= n /\ n < a + m
theorem vPlus_st {a m : Nat} : ∀ v W W', vPlus a m v W -> newer W W' -> vPlus a m v W' := fun _ _ _ h _ => h
def vStep (p : Nat) (v : Value) (_ : World) : Prop := ∃ z : Int, v = vi z /\ (p : Int) - 1 <= z /\ z <= (p : Int) + 1
theorem vStep_st {p : Nat} : ∀ v W W', vStep p v W -> newer W W' -> vStep p v W' := fun _ _ _ h _ => h
def vNear (p : Nat) (v : Value) (_ : World) : Prop := ∃ z : Nat, v = vi z /\ p <= z + 1 /\ z <= p + 1
theorem vNear_st {p : Nat} : ∀ v W W', vNear p v W -> newer W W' -> vNear p v W' := fun _ _ _ h _ => h
def vBed (p n : Nat) (v : Value) (_ : World) : Prop := ∃ z : Nat, v = vi z /\ p <= z + 1 /\ z <= p + 1 /\ z < n
theorem vBed_st {p n : Nat} : ∀ v W W', vBed p n v W -> newer W W' -> vBed p n v W' := fun _ _ _ h _ => h
theorem way_all {n : Nat} : ∀ (l : List Nat), wayB n l -> ∀ x ∈ l, x < n
 | [], _, x, hx => by simp at hx
 | b :: l, h, x, hx => by
  rcases List.mem_cons.1 hx with rfl | hx
  ·exact h.1
  ·exact way_all l h.2.2 x hx
theorem own_nat {w : World} {B : Nat} {A : Option Addr} {c : Nat} {l : List Nat} (h : w.ownsRow B 3 1 (.slice A l.length c) l.length (l.map fun x : Nat => vi x)) {k p : Nat} (hk : l[k]? = some p) : ∃ b off, A = some ⟨b, off, none⟩ /\ b < w.heap.size /\ w.cell? ⟨b, off + k, none⟩ = some (vi p) := by
 have hr := (row_nats (L := l.map fun x : Nat => (x : Int)) rfl h).2
 have hk2 : (l.map fun x : Nat => (x : Int))[k]? = some (p : Int) := by rw [List.getElem?_map, hk]; rfl
 obtain ⟨b, off, e, hb, hc⟩ := hr (ne_nil_of_get hk2)
 exact ⟨b, off, e, hb, by simpa using hc k _ hk2 0 _ rfl⟩
theorem rem_natW (a m : Nat) (hm : 0 < m) (h : m <= 100000) : ∃ r : Nat, r < m /\ (a : Int).tmod m = r /\ IntKind.i64.wrap (r : Int) = r := by
 refine ⟨a % m, Nat.mod_lt _ hm, ?_, IntWalk.i64_in _ (by have := Nat.mod_lt a hm; omega)⟩
 rw [Int.tmod_eq_emod_of_nonneg (by omega)]
 exact (Int.natCast_emod _ _).symm
set_option maxRecDepth 100000 in
set_option maxHeartbeats 2000000 in
theorem path_any (s : Sm) (ws : List Byt) (wa : Option Addr) (wc : Nat) (w : World) (hok : SmOk s w) (hr : Row byL 1 w w.heap.size wa ws) (hs : SdOk s.sd) (hle : s.sd.least <= (s.sd.cols.length : Int)) : Calls Try.prog 13 #[smV s, .slice wa ws.length wc] w fun e w' => ∃ u : Su, e = .returned (suV u) /\ SuOk u w' /\ (∃ k l, u.frm = (k : Nat) /\ u.beds = l.map (fun x : Nat => (x : Int)) /\ SurfB s.sd.n s.cs.length s.sd.K k l) /\ newer w w' := by
 have hcl : s.cs.length <= 12 /\ 1 <= s.cs.length := by have h1 := hs.cols; rw [sd_len] at h1; omega
 obtain ⟨K, hK⟩ : ∃ K, K = s.sd.K := ⟨_, rfl⟩
 have hkl : s.least = (K : Int) /\ 1 <= K /\ K <= 4 /\ K <= s.cs.length := by
  have h1 := hs.least
  rw [sd_len] at hle
  have h2 : s.sd.least = s.least := rfl
  rw [hK]
  unfold Sd.K
  omega
 obtain ⟨hkl, hK1, hK4, hKc⟩ := hkl
 obtain ⟨n, hn⟩ : ∃ n, n = s.sd.n := ⟨_, rfl⟩
 rw [<- hn, <- hK]
 have hn5 : 1 <= n /\ n <= 5 := by rw [hn]; exact hs.beds
 obtain ⟨y0, hy0⟩ := get_of_lt (l := s.cs) (k := 0) (by omega)
 have hyn : y0.beds.length = n := by rw [hn]; exact (sd_n hy0).symm
 obtain ⟨sa, so, ea, _, cy⟩ := rowC hok.cs hy0
 simp only [Nat.add_zero] at cy
 rw [hyn] at cy
 have hcne : ¬ (s.cs = []) := by intro h; rw [h] at hcl; simp at hcl
 have HCY := Lib.hid cy
 have HSA := Lib.hid ea
 have H0 : Hid (newer w (((w.alloc (.cells (smC s) 38)).alloc (.cells #[.slice wa ws.length wc] 30)).alloc (.cells #[vi 0, .slice none 0 0] 57)) /\ Whole (((w.alloc (.cells (smC s) 38)).alloc (.cells #[.slice wa ws.length wc] 30)).alloc (.cells #[vi 0, .slice none 0 0] 57)) w.heap.size 38 (smC s) /\ Whole (((w.alloc (.cells (smC s) 38)).alloc (.cells #[.slice wa ws.length wc] 30)).alloc (.cells #[vi 0, .slice none 0 0] 57)) (w.heap.size + 1) 30 #[.slice wa ws.length wc] /\ Whole (((w.alloc (.cells (smC s) 38)).alloc (.cells #[.slice wa ws.length wc] 30)).alloc (.cells #[vi 0, .slice none 0 0] 57)) (w.heap.size + 1 + 1) 57 #[vi 0, .slice none 0 0]) := Lib.hid (by
  have e1 := newer_allocH w (.cells (smC s) 38)
  have e2 := newer_allocH (w.alloc (.cells (smC s) 38)) (.cells #[.slice wa ws.length wc] 30)
  have e3 := newer_allocH ((w.alloc (.cells (smC s) 38)).alloc (.cells #[.slice wa ws.length wc] 30)) (.cells #[vi 0, .slice none 0 0] 57)
  have a1 := Whole.made w 38 (smC s)
  have a2 := Whole.made (w.alloc (.cells (smC s) 38)) 30 #[.slice wa ws.length wc]
  have a3 := Whole.made ((w.alloc (.cells (smC s) 38)).alloc (.cells #[.slice wa ws.length wc] 30)) 57 #[vi 0, .slice none 0 0]
  rw [World.size_alloc] at a2
  rw [World.size_alloc, World.size_alloc] at a3
  exact ⟨newer_trans (newer_trans e1 e2) e3, (a1.below e2 a1.lt).below e3 (by simp; omega), a2.below e3 a2.lt, a3⟩)
 have HR := Lib.hid hr
 obtain ⟨i0, hi0, hz0, hz1, hz2⟩ := info_parts info_int
 have HI := Lib.hid (And.intro hi0 (And.intro hz0 (And.intro hz1 hz2)))
 clear hi0 hz0 hz1 hz2
 obtain ⟨w1, hw1⟩ : ∃ w1, w1 = (((w.alloc (.cells (smC s) 38)).alloc (.cells #[.slice wa ws.length wc] 30)).alloc (.cells #[vi 0, .slice none 0 0] 57)) := ⟨_, rfl⟩
 rw [<- hw1] at H0
 have HWD : Hid (∀ (i : Nat) (W : World), newer w1 W -> i <= 100 -> Calls Try.prog 31 #[vi i, .pointer (some ⟨w.heap.size + 1, 0, none⟩)] W fun e w' => ∃ q : Nat, e = .returned (vi q) /\ q <= 255 /\ newer W w') := Lib.hid (fun i W hW hi => word_any ws wa wc _ i W (H0.out.2.2.1.below hW H0.out.2.2.1.lt) ((HR.out.below (newer_trans H0.out.1 hW)).more (newer_trans H0.out.1 hW).size) (by omega))
 obtain ⟨d1, hd1⟩ : ∃ d : Nat, d = s.cs.length - K := ⟨_, rfl⟩
 have e24 : IntKind.i64.wrap ((s.cs.length : Int) - K) = d1 := by rw [show (d1 : Int) = (s.cs.length : Int) - K by omega]; exact IntWalk.i64_in _ (by omega)
 obtain ⟨m1, hm1⟩ : ∃ m : Nat, m = d1 + 1 := ⟨_, rfl⟩
 have e25 : IntKind.i64.wrap ((d1 : Int) + 1) = m1 := by rw [show (m1 : Int) = (d1 : Int) + 1 by omega]; exact IntWalk.i64_in _ (by omega)
 have x0 := H0.out.2.1.at 0 (v := .slice s.a s.cs.length s.c) rfl
 have x1 := H0.out.2.1.at 1 (v := vi s.least) rfl
 rw [hw1] at x0 x1
 rw [hkl] at x1
 rw [ea] at x0
 clear hok hr hs hle hK hn hy0 hyn ea cy
 have HKC : (K : Int) <= s.cs.length := by omega
 go_enter Try.func13, Try.ntmps13
 go_upto_region 3 with fail
 rw [<- hw1] at x0 ⊢
 clear hw1 x1
 refine wp_words (by kernel_rfl) (region_told 11 (by kernel_rfl) (by kernel_rfl) (fun W => Below w1.heap.size w1 W) newer (pickD [vIs (.func (.func 31) #[] #[.pointer (some ⟨w.heap.size + 1, 0, none⟩)]), vMod 256, vIs (.pointer (some ⟨w.heap.size, 0, none⟩)), vIs (.slice (some ⟨sa, so, none⟩) s.cs.length s.c), vIs (.int .i64 s.cs.length), vIs (vi K), vIs (vi d1), vIs (vi m1), vMod m1, vBuild m1, vNew w1.heap.size 57 #[vi 0, .slice none 0 0]]) (fun h k => newer_trans h k) (pickD_stable _ ⟨vIs_st, vMod_st, vIs_st, vIs_st, vIs_st, vIs_st, vIs_st, vIs_st, vMod_st, vBuild_st, vNew_st, trivial⟩) (Below.refl _ w1).drew (Below.refl _ _) ?_ ?_)
 ·refine ⟨?_, ?_, ?_, ?_, ?_, ?_, ?_, ?_, ?_, ?_, ?_, trivial⟩
  ·intro a W hG hR hO hp; have h5 := hO.slot 5 (by kernel_rfl); refine wp_yields (v := .func (.func 31) #[] #[.pointer (some ⟨w.heap.size + 1, 0, none⟩)]) ?_ ⟨_, rfl, rfl, Below.refl _ _, hG⟩; simp [slotOf] at h5; simp [execOp, go_sem, h5]
  ·intro a W hG hR hO hp
   have h18 : slotOf a 18 = .func (.func 31) #[] #[.pointer (some ⟨w.heap.size + 1, 0, none⟩)] := hp.1
   refine wp_enters (f := 31) (args := #[vi (0 : Nat), .pointer (some ⟨w.heap.size + 1, 0, none⟩)]) ?_ ((HWD.out 0 W hG (by omega)).mono ?_)
   ·simp [slotOf] at h18
    simp [go_sem, h18]
   ·rintro e w' ⟨n, rfl, h1, hb⟩
    exact ⟨_, rfl, _, rfl, ⟨n, rfl, by omega⟩, hb, below_next hG hb⟩
  ·intro a W hG hR hO hp; have h2 := hO.slot 2 (by kernel_rfl); refine wp_yields (v := .pointer (some ⟨w.heap.size, 0, none⟩)) ?_ ⟨_, rfl, rfl, Below.refl _ _, hG⟩; simp [slotOf] at h2; simp [execOp, go_sem, h2]
  ·intro a W hG hR hO hp; have h20 : slotOf a 20 = .pointer (some ⟨w.heap.size, 0, none⟩) := hp.1; have c0 := keep_cell x0 hG; refine wp_yields (v := .slice (some ⟨sa, so, none⟩) s.cs.length s.c) ?_ ⟨_, rfl, rfl, Below.refl _ _, hG⟩; simp [slotOf] at h20; simp [execOp, go_sem, h20, c0]
  ·intro a W hG hR hO hp; have h21 : slotOf a 21 = .slice (some ⟨sa, so, none⟩) s.cs.length s.c := hp.1; refine wp_yields (v := .int .i64 s.cs.length) ?_ ⟨_, rfl, rfl, Below.refl _ _, hG⟩; simp [slotOf] at h21; simp [go_sem, h21]
  ·intro a W hG hR hO hp; have h6 := hO.slot 6 (by kernel_rfl); refine wp_yields (v := vi K) ?_ ⟨_, rfl, rfl, Below.refl _ _, hG⟩; simp [slotOf] at h6; simp [execOp, go_sem, h6]
  ·intro a W hG hR hO hp; have h22 : slotOf a 22 = .int .i64 s.cs.length := hp.1; have h23 : slotOf a 23 = vi K := hp.2.1; refine wp_yields (v := vi d1) ?_ ⟨_, rfl, rfl, Below.refl _ _, hG⟩; simp [slotOf] at h22 h23; simp [execOp, go_sem, h22, h23, e24]
  ·intro a W hG hR hO hp; have h24 : slotOf a 24 = vi d1 := hp.1; refine wp_yields (v := vi m1) ?_ ⟨_, rfl, rfl, Below.refl _ _, hG⟩; simp [slotOf] at h24; simp [execOp, go_sem, h24, e25]
  ·intro a W hG hR hO hp; have h19 := hp.1; have h25 : slotOf a 25 = vi m1 := hp.2.1; obtain ⟨a9, h19, _⟩ := h19; obtain ⟨r9, hr9, er9, ew9⟩ := rem_natW a9 m1 (by omega) (by omega); have hz9 : ¬ (m1 : Nat) = 0 := (by omega); refine wp_yields (v := vi r9) ?_ ⟨_, rfl, ⟨r9, rfl, hr9⟩, Below.refl _ _, hG⟩; simp [slotOf] at h19 h25; simp [execOp, go_sem, h19, h25, er9, hz9]
  ·intro a W hG hR hO hp; have h26 := hp.1; obtain ⟨a9, h26, h1⟩ := h26; refine wp_yields (v := .agg #[vi a9, .slice none 0 0]) ?_ ⟨_, rfl, ⟨a9, rfl, h1⟩, Below.refl _ _, hG⟩; simp [slotOf] at h26; simp [execOp, go_sem, h26]
  ·intro a W hG hR hO hp; refine wp_makes (v := .pointer (some ⟨W.heap.size, 0, none⟩)) (W' := W.alloc (.cells #[vi 0, .slice none 0 0] 57)) ?_ ⟨_, rfl, ⟨_, rfl, hG.size, Whole.made _ _ _⟩, newer_allocH _ _, below_next hG (newer_allocH _ _)⟩; skip; simp [execOp, go_sem]
 ·intro w2 hG hR
  rintro _ rfl _ - _ rfl _ rfl _ rfl _ rfl _ rfl _ rfl _ - _ ⟨k, rfl, hk⟩ _ ⟨ub, rfl, hub, hwu⟩
  change wpList _ _ _ _ _ _
  simp only [Act.put, List.setIfInBounds_toArray, List.set_cons_zero, List.set_cons_succ, List.drop_succ_cons, List.drop_zero]
  have b0 := hwu.at 0 rfl
  have b1 := hwu.at 1 rfl
  have f0 := hwu.free 0
  have f1 := hwu.free 1
  have hG3 := (hG.setCell (p := ⟨ub, 0, none⟩) hub (vi k)).setCell (p := ⟨ub, 1, none⟩) hub (.slice none 0 0)
  have HJ : Hid (PtJ s ws wa wc k [] none 0 ub w ((w2.setCell ⟨ub, 0, none⟩ (vi k)).setCell ⟨ub, 1, none⟩ (.slice none 0 0))) := Lib.hid ⟨newer_trans H0.out.1 hG3, H0.out.2.1.below hG3 H0.out.2.1.lt, H0.out.2.2.1.below hG3 H0.out.2.2.1.lt, H0.out.2.2.2.below hG3 H0.out.2.2.2.lt, (hwu.set 0 _).set 1 _, by have := H0.out.2.2.2.lt; omega, ⟨rfl, .inl ⟨rfl, rfl⟩⟩⟩
  clear x0 hG hR hG3 hwu hub HWD H0
  go_upto_region 4 with fail
  obtain ⟨w3, hw3⟩ : ∃ x, x = ((w2.setCell ⟨ub, 0, none⟩ (vi k)).setCell ⟨ub, 1, none⟩ (.slice none 0 0)) := ⟨_, rfl⟩
  rw [<- hw3] at HJ ⊢
  clear hw3 b0 b1 f0 f1
  have x0 := HJ.out.xb.at 0 (v := .slice s.a s.cs.length s.c) rfl
  rw [HSA.out] at x0
  have u0 := HJ.out.bx.at 0 (v := vi k) rfl
  obtain ⟨d3, hd3⟩ : ∃ d : Nat, d = s.cs.length - k := ⟨_, rfl⟩
  obtain ⟨d2, hd2⟩ : ∃ d : Nat, d = d3 - K := ⟨_, rfl⟩
  obtain ⟨m2, hm2⟩ : ∃ d : Nat, d = d2 + 1 := ⟨_, rfl⟩
  have e36 : IntKind.i64.wrap ((s.cs.length : Int) - k) = d3 := by rw [show (d3 : Int) = (s.cs.length : Int) - k by omega]; exact IntWalk.i64_in _ (by omega)
  have e38 : IntKind.i64.wrap ((d3 : Int) - K) = d2 := by rw [show (d2 : Int) = (d3 : Int) - K by omega]; exact IntWalk.i64_in _ (by omega)
  have e39 : IntKind.i64.wrap ((d2 : Int) + 1) = m2 := by rw [show (m2 : Int) = (d2 : Int) + 1 by omega]; exact IntWalk.i64_in _ (by omega)
  have HWD : Hid (∀ (i : Nat) (W : World), newer w3 W -> i <= 100 -> Calls Try.prog 31 #[vi i, .pointer (some ⟨w.heap.size + 1, 0, none⟩)] W fun e w' => ∃ q : Nat, e = .returned (vi q) /\ q <= 255 /\ newer W w') := Lib.hid (fun i W hW hi => word_any ws wa wc _ i W (HJ.out.wb.below hW HJ.out.wb.lt) ((HR.out.below (newer_trans HJ.out.nw hW)).more (newer_trans HJ.out.nw hW).size) (by omega))
  have hkm : k + K <= s.cs.length := by omega
  refine wp_words (by kernel_rfl) (region_told 14 (by kernel_rfl) (by kernel_rfl) (fun W => Below w3.heap.size w3 W) newer (pickD [vIs (vi K), vIs (.func (.func 31) #[] #[.pointer (some ⟨w.heap.size + 1, 0, none⟩)]), vMod 256, vIs (.pointer (some ⟨w.heap.size, 0, none⟩)), vIs (.slice (some ⟨sa, so, none⟩) s.cs.length s.c), vIs (.int .i64 s.cs.length), vIs (.pointer (some ⟨ub, 0, none⟩)), vIs (vi k), vIs (vi d3), vIs (vi K), vIs (vi d2), vIs (vi m2), vMod m2, vPlus K m2]) (fun h k => newer_trans h k) (pickD_stable _ ⟨vIs_st, vIs_st, vMod_st, vIs_st, vIs_st, vIs_st, vIs_st, vIs_st, vIs_st, vIs_st, vIs_st, vIs_st, vMod_st, vPlus_st, trivial⟩) (Below.refl _ w3).drew (Below.refl _ _) ?_ ?_)
  ·refine ⟨?_, ?_, ?_, ?_, ?_, ?_, ?_, ?_, ?_, ?_, ?_, ?_, ?_, ?_, trivial⟩
   ·intro a W hG hR hO hp; have h6 := hO.slot 6 (by kernel_rfl); refine wp_yields (v := vi K) ?_ ⟨_, rfl, rfl, Below.refl _ _, hG⟩; simp [slotOf] at h6; simp [execOp, go_sem, h6]
   ·intro a W hG hR hO hp; have h5 := hO.slot 5 (by kernel_rfl); refine wp_yields (v := .func (.func 31) #[] #[.pointer (some ⟨w.heap.size + 1, 0, none⟩)]) ?_ ⟨_, rfl, rfl, Below.refl _ _, hG⟩; simp [slotOf] at h5; simp [execOp, go_sem, h5]
   ·intro a W hG hR hO hp
    have h29 : slotOf a 29 = .func (.func 31) #[] #[.pointer (some ⟨w.heap.size + 1, 0, none⟩)] := hp.1
    refine wp_enters (f := 31) (args := #[vi (1 : Nat), .pointer (some ⟨w.heap.size + 1, 0, none⟩)]) ?_ ((HWD.out 1 W hG (by omega)).mono ?_)
    ·simp [slotOf] at h29
     simp [go_sem, h29]
    ·rintro e w' ⟨n, rfl, h1, hb⟩
     exact ⟨_, rfl, _, rfl, ⟨n, rfl, by omega⟩, hb, below_next hG hb⟩
   ·intro a W hG hR hO hp; have h2 := hO.slot 2 (by kernel_rfl); refine wp_yields (v := .pointer (some ⟨w.heap.size, 0, none⟩)) ?_ ⟨_, rfl, rfl, Below.refl _ _, hG⟩; simp [slotOf] at h2; simp [execOp, go_sem, h2]
   ·intro a W hG hR hO hp; have h31 : slotOf a 31 = .pointer (some ⟨w.heap.size, 0, none⟩) := hp.1; have c0 := keep_cell x0 hG; refine wp_yields (v := .slice (some ⟨sa, so, none⟩) s.cs.length s.c) ?_ ⟨_, rfl, rfl, Below.refl _ _, hG⟩; simp [slotOf] at h31; simp [execOp, go_sem, h31, c0]
   ·intro a W hG hR hO hp; have h32 : slotOf a 32 = .slice (some ⟨sa, so, none⟩) s.cs.length s.c := hp.1; refine wp_yields (v := .int .i64 s.cs.length) ?_ ⟨_, rfl, rfl, Below.refl _ _, hG⟩; simp [slotOf] at h32; simp [go_sem, h32]
   ·intro a W hG hR hO hp; have h7 := hO.slot 7 (by kernel_rfl); refine wp_yields (v := .pointer (some ⟨ub, 0, none⟩)) ?_ ⟨_, rfl, rfl, Below.refl _ _, hG⟩; simp [slotOf] at h7; simp [execOp, go_sem, h7]
   ·intro a W hG hR hO hp; have h34 : slotOf a 34 = .pointer (some ⟨ub, 0, none⟩) := hp.1; have c0 := keep_cell u0 hG; refine wp_yields (v := vi k) ?_ ⟨_, rfl, rfl, Below.refl _ _, hG⟩; simp [slotOf] at h34; simp [execOp, go_sem, h34, c0]
   ·intro a W hG hR hO hp; have h33 : slotOf a 33 = .int .i64 s.cs.length := hp.1; have h35 : slotOf a 35 = vi k := hp.2.1; refine wp_yields (v := vi d3) ?_ ⟨_, rfl, rfl, Below.refl _ _, hG⟩; simp [slotOf] at h33 h35; simp [execOp, go_sem, h33, h35, e36]
   ·intro a W hG hR hO hp; have h6 := hO.slot 6 (by kernel_rfl); refine wp_yields (v := vi K) ?_ ⟨_, rfl, rfl, Below.refl _ _, hG⟩; simp [slotOf] at h6; simp [execOp, go_sem, h6]
   ·intro a W hG hR hO hp; have h36 : slotOf a 36 = vi d3 := hp.1; have h37 : slotOf a 37 = vi K := hp.2.1; refine wp_yields (v := vi d2) ?_ ⟨_, rfl, rfl, Below.refl _ _, hG⟩; simp [slotOf] at h36 h37; simp [execOp, go_sem, h36, h37, e38]
   ·intro a W hG hR hO hp; have h38 : slotOf a 38 = vi d2 := hp.1; refine wp_yields (v := vi m2) ?_ ⟨_, rfl, rfl, Below.refl _ _, hG⟩; simp [slotOf] at h38; simp [execOp, go_sem, h38, e39]
   ·intro a W hG hR hO hp; have h30 := hp.1; have h39 : slotOf a 39 = vi m2 := hp.2.1; obtain ⟨a9, h30, _⟩ := h30; obtain ⟨r9, hr9, er9, ew9⟩ := rem_natW a9 m2 (by omega) (by omega); have hz9 : ¬ (m2 : Nat) = 0 := (by omega); refine wp_yields (v := vi r9) ?_ ⟨_, rfl, ⟨r9, rfl, hr9⟩, Below.refl _ _, hG⟩; simp [slotOf] at h30 h39; simp [execOp, go_sem, h30, h39, er9, hz9]
   ·intro a W hG hR hO hp; have h28 : slotOf a 28 = vi K := hp.1; have h40 := hp.2.1; obtain ⟨a9, h40, h1⟩ := h40; have e9 : IntKind.i64.wrap ((K : Int) + a9) = ((K + a9 : Nat) : Int) := (by rw [Int.natCast_add]; exact IntWalk.i64_in _ (by omega)); refine wp_yields (v := vi (K + a9 : Nat)) ?_ ⟨_, rfl, ⟨K + a9, rfl, by omega, by omega⟩, Below.refl _ _, hG⟩; simp [slotOf] at h28 h40; simp [execOp, go_sem, h28, h40, e9]
  ·intro w4 hG hR
   rintro _ rfl _ rfl _ - _ rfl _ rfl _ rfl _ rfl _ rfl _ rfl _ rfl _ rfl _ rfl _ - _ ⟨m, rfl, hm1_, hm2_⟩
   change wpList _ _ _ _ _ _
   simp only [Act.put, List.setIfInBounds_toArray, List.set_cons_zero, List.set_cons_succ, List.drop_succ_cons, List.drop_zero]
   have HJ4 := Lib.hid (HJ.out.next hG)
   have hmk : k + m <= s.cs.length /\ K <= m /\ m <= 12 := by omega
   have HMK := Lib.hid hmk
   have hm12 : m <= 12 := by omega
   clear hG hR x0 u0 HJ HWD e24 e25 e36 e38 e39 hd1 hm1 hd3 hd2 hm2 hk hkm hm1_ hm2_ hmk
   go_wp2_with fail
   go_loopw [9] (fun s9 wr => ∃ (i : Nat) (l : List Nat) (A : Option Addr) (c : Nat), s9 = vi i /\ i <= m /\ l.length = i /\ wayB n l /\ PtJ s ws wa wc k l A c ub w wr) (fun s9 _ => m - (intOf s9).toNat)
   case atStart => exact ⟨0, [], none, 0, rfl, Nat.zero_le _, rfl, trivial, HJ4.out⟩
   case round =>
    obtain ⟨i, l, A, c, rfl, hi, hli, hwy, hj⟩ := hrel
    clear HJ4
    have HJ := Lib.hid hj
    have HLI := Lib.hid hli
    have HWL := Lib.hid hwy
    have x0 := hj.xb.at 0 (v := .slice s.a s.cs.length s.c) rfl
    rw [HSA.out] at x0
    have cy := keep_cell HCY.out hj.nw
    have HWD : Hid (∀ (i : Nat) (W : World), newer wr W -> i <= 100 -> Calls Try.prog 31 #[vi i, .pointer (some ⟨w.heap.size + 1, 0, none⟩)] W fun e w' => ∃ q : Nat, e = .returned (vi q) /\ q <= 255 /\ newer W w') := Lib.hid (fun i W hW hi => word_any ws wa wc _ i W (HJ.out.wb.below hW HJ.out.wb.lt) ((HR.out.below (newer_trans HJ.out.nw hW)).more (newer_trans HJ.out.nw hW).size) (by omega))
    clear hli hwy hj
    by_cases hlt : i < m
    ·have e49 : IntKind.i64.wrap (2 + (i : Int)) = ((2 + i : Nat) : Int) := by rw [Int.natCast_add]; exact IntWalk.i64_in _ (by omega)
     have hlti : (i : Int) < m := by omega
     go_upto_region 8 with fail
     refine wp_words (by kernel_rfl) (region_told 10 (by kernel_rfl) (by kernel_rfl) (fun W => Below wr.heap.size wr W) newer (pickD [vIs (.func (.func 31) #[] #[.pointer (some ⟨w.heap.size + 1, 0, none⟩)]), vIs (vi i), vIs (vi (2 + i : Nat)), vMod 256, vIs (.pointer (some ⟨w.heap.size, 0, none⟩)), vIs (.slice (some ⟨sa, so, none⟩) s.cs.length s.c), vIs (.pointer (some ⟨sa, so, none⟩)), vIs (.slice y0.a n y0.cp), vIs (.int .i64 n), vMod n]) (fun h k => newer_trans h k) (pickD_stable _ ⟨vIs_st, vIs_st, vIs_st, vMod_st, vIs_st, vIs_st, vIs_st, vIs_st, vIs_st, vMod_st, trivial⟩) (Below.refl _ wr).drew (Below.refl _ _) ?_ ?_)
     ·refine ⟨?_, ?_, ?_, ?_, ?_, ?_, ?_, ?_, ?_, ?_, trivial⟩
      ·intro a W hG hR hO hp; have h5 := hO.slot 5 (by kernel_rfl); refine wp_yields (v := .func (.func 31) #[] #[.pointer (some ⟨w.heap.size + 1, 0, none⟩)]) ?_ ⟨_, rfl, rfl, Below.refl _ _, hG⟩; simp [slotOf] at h5; simp [execOp, go_sem, h5]
      ·intro a W hG hR hO hp; have h9 := hO.slot 9 (by kernel_rfl); refine wp_yields (v := vi i) ?_ ⟨_, rfl, rfl, Below.refl _ _, hG⟩; simp [slotOf] at h9; simp [execOp, go_sem, h9]
      ·intro a W hG hR hO hp; have h48 : slotOf a 48 = vi i := hp.1; refine wp_yields (v := vi (2 + i : Nat)) ?_ ⟨_, rfl, rfl, Below.refl _ _, hG⟩; simp [slotOf] at h48; simp [execOp, go_sem, h48, e49]
      ·intro a W hG hR hO hp
       have h47 : slotOf a 47 = .func (.func 31) #[] #[.pointer (some ⟨w.heap.size + 1, 0, none⟩)] := hp.1
       have h49 : slotOf a 49 = vi (2 + i : Nat) := hp.2.1
       refine wp_enters (f := 31) (args := #[vi ((2 + i) : Nat), .pointer (some ⟨w.heap.size + 1, 0, none⟩)]) ?_ ((HWD.out (2 + i) W hG (by omega)).mono ?_)
       ·simp [slotOf] at h47 h49
        simp [go_sem, h47, h49]
       ·rintro e w' ⟨n, rfl, h1, hb⟩
        exact ⟨_, rfl, _, rfl, ⟨n, rfl, by omega⟩, hb, below_next hG hb⟩
      ·intro a W hG hR hO hp; have h2 := hO.slot 2 (by kernel_rfl); refine wp_yields (v := .pointer (some ⟨w.heap.size, 0, none⟩)) ?_ ⟨_, rfl, rfl, Below.refl _ _, hG⟩; simp [slotOf] at h2; simp [execOp, go_sem, h2]
      ·intro a W hG hR hO hp; have h51 : slotOf a 51 = .pointer (some ⟨w.heap.size, 0, none⟩) := hp.1; have c0 := keep_cell x0 hG; refine wp_yields (v := .slice (some ⟨sa, so, none⟩) s.cs.length s.c) ?_ ⟨_, rfl, rfl, Below.refl _ _, hG⟩; simp [slotOf] at h51; simp [execOp, go_sem, h51, c0]
      ·intro a W hG hR hO hp; have h52 : slotOf a 52 = .slice (some ⟨sa, so, none⟩) s.cs.length s.c := hp.1; refine wp_yields (v := .pointer (some ⟨sa, so, none⟩)) ?_ ⟨_, rfl, rfl, Below.refl _ _, hG⟩; simp [slotOf] at h52; simp [execOp, go_sem, h52, hcne]
      ·intro a W hG hR hO hp; have h53 : slotOf a 53 = .pointer (some ⟨sa, so, none⟩) := hp.1; have c0 := keep_cell cy hG; refine wp_yields (v := .slice y0.a n y0.cp) ?_ ⟨_, rfl, rfl, Below.refl _ _, hG⟩; simp [slotOf] at h53; simp [execOp, go_sem, h53, c0]
      ·intro a W hG hR hO hp; have h54 : slotOf a 54 = .slice y0.a n y0.cp := hp.1; refine wp_yields (v := .int .i64 n) ?_ ⟨_, rfl, rfl, Below.refl _ _, hG⟩; simp [slotOf] at h54; simp [go_sem, h54]
      ·intro a W hG hR hO hp; have h50 := hp.1; have h55 : slotOf a 55 = .int .i64 n := hp.2.1; obtain ⟨a9, h50, _⟩ := h50; obtain ⟨r9, hr9, er9, ew9⟩ := rem_natW a9 n (by omega) (by omega); have hz9 : ¬ (n : Nat) = 0 := (by omega); refine wp_yields (v := vi r9) ?_ ⟨_, rfl, ⟨r9, rfl, hr9⟩, Below.refl _ _, hG⟩; simp [slotOf] at h50 h55; simp [execOp, go_sem, h50, h55, er9, hz9]
     ·intro w8 hG hR
      rintro _ rfl _ rfl _ rfl _ - _ rfl _ rfl _ rfl _ rfl _ rfl _ ⟨z0, rfl, hz0⟩
      change wpList _ _ _ _ _ _
      simp only [Act.put, List.setIfInBounds_toArray, List.set_cons_zero, List.set_cons_succ, List.drop_succ_cons, List.drop_zero]
      have HJ8 := Lib.hid (HJ.out.next hG)
      by_cases hi0 : i = 0
      ·have HWY : Hid (wayB n (l ++ [z0])) := Lib.hid (by
        have h1 : l = [] := List.eq_nil_of_length_eq_zero (by rw [HLI.out]; exact hi0)
        rw [h1]
        exact ⟨hz0, fun y hy => by simp at hy, trivial⟩)
       have hi1 : ¬ (0 < i) := by omega
       have hi2 : ¬ (0 < (i : Int)) := by omega
       have HJ := HJ8
       clear hG hR x0 cy HWD HJ8 hi0 e49
       have hn1 := newer_allocH w8 (.cells #[vi z0] 3)
       have HJ3 := Lib.hid (HJ.out.next hn1)
       have HCW : Hid ((w8.alloc (.cells #[vi z0] 3)).cell? ⟨w8.heap.size, 0, none⟩ = some (vi z0)) := Lib.hid ((Whole.made w8 3 #[vi z0]).at 0 rfl)
       have HLB := Lib.hid (show l.length <= 12 by have := HLI.out; omega)
       clear hn1
       have u1 := HJ.out.bx.at 1 (v := .slice A l.length c) rfl
       go_wp2_with (at_builtin; go_loud ((refine wpList_plain rfl fun _ hK => wp_append_one (.tmp 81) (.tmp 83) 26 rfl w.heap.size 3 i0 (.int .i64 0) 8 Try.underlying26 HI.out.1 HI.out.2.1 HI.out.2.2.1 HI.out.2.2.2 rfl A l.length c (l.map fun x : Nat => vi x) rfl HJ3.out.own ⟨w8.heap.size, 0, none⟩ 1 (vi z0) rfl HCW.out rfl (by have := HLB.out; unfold maxLen; omega) (by have := HLB.out; omega) HJ3.out.nw.size fun g2 c2 w5 hown hwh => hK _ _ ?_); have HE := Lib.hid (HJ3.out.app hown hwh); have p1 := HE.out.1.at 1 (v := .slice A l.length c) rfl; have pf1 := HE.out.1.free 1; clear hown hwh))
       refine ⟨⟨i + 1, l ++ [z0], some ⟨g2, 0, none⟩, c2, rfl, by omega, by rw [List.length_append, HLI.out]; rfl, HWY.out, HE.out.2⟩, ?_⟩
       simp [intOf]
       omega
      ·obtain ⟨i1, hi1e⟩ : ∃ i1, i1 = i - 1 := ⟨_, rfl⟩
       have hi1p : (0 < i) := by omega
       have hi2 : (0 < (i : Int)) := by omega
       have e62 : IntKind.i64.wrap ((i : Int) - 1) = i1 := by rw [show (i1 : Int) = (i : Int) - 1 by omega]; exact IntWalk.i64_in _ (by omega)
       obtain ⟨p, hp⟩ := get_of_lt (l := l) (k := i1) (by have := HLI.out; omega)
       have hi1 : (i1 : Int) < l.length := by have := HLI.out; omega
       have hlast : l.getLast? = some p := by rw [List.getLast?_eq_getElem?, HLI.out, <- hi1e]; exact hp
       have hpn : p < n := way_all l HWL.out p (List.mem_of_getElem? hp)
       obtain ⟨lg, lo, eA, _, cp⟩ := own_nat HJ8.out.own hp
       have u1 := HJ8.out.bx.at 1 (v := .slice A l.length c) rfl
       have x0 := keep_cell x0 hG
       have cy := keep_cell cy hG
       have HEA := Lib.hid eA
       rw [eA] at u1
       have hcl0 : ¬ (l = []) := by intro h; rw [h] at hp; simp at hp
       have e65 : IntKind.i64.wrap ((p : Int) - 1) = (p : Int) - 1 := IntWalk.i64_in _ (by omega)
       have e78 : IntKind.i64.wrap ((n : Int) - 1) = (n : Int) - 1 := IntWalk.i64_in _ (by omega)
       have HWD : Hid (∀ (i : Nat) (W : World), newer w8 W -> i <= 100 -> Calls Try.prog 31 #[vi i, .pointer (some ⟨w.heap.size + 1, 0, none⟩)] W fun e w' => ∃ q : Nat, e = .returned (vi q) /\ q <= 255 /\ newer W w') := Lib.hid (fun i W hW hi => HWD.out i W (newer_trans hG hW) hi)
       have HP := Lib.hid (And.intro hlast hz0)
       clear hG hR hi0 hp hlast eA hi1e hz0
       go_upto_region 10 with fail
       refine wp_words (by kernel_rfl) (region_told 21 (by kernel_rfl) (by kernel_rfl) (fun W => Below w8.heap.size w8 W) newer (pickD [vIs (.pointer (some ⟨ub, 1, none⟩)), vIs (.slice (some ⟨lg, lo, none⟩) l.length c), vIs (vi i), vIs (vi i1), vIs (.pointer (some ⟨lg, lo + i1, none⟩)), vIs (vi p), vIs (vi ((p : Int) - 1)), vIs (.func (.func 31) #[] #[.pointer (some ⟨w.heap.size + 1, 0, none⟩)]), vIs (vi i), vIs (vi (2 + i : Nat)), vMod 256, vMod 3, vStep p, vNear p, vIs (.pointer (some ⟨w.heap.size, 0, none⟩)), vIs (.slice (some ⟨sa, so, none⟩) s.cs.length s.c), vIs (.pointer (some ⟨sa, so, none⟩)), vIs (.slice y0.a n y0.cp), vIs (.int .i64 n), vIs (vi ((n : Int) - 1)), vBed p n]) (fun h k => newer_trans h k) (pickD_stable _ ⟨vIs_st, vIs_st, vIs_st, vIs_st, vIs_st, vIs_st, vIs_st, vIs_st, vIs_st, vIs_st, vMod_st, vMod_st, vStep_st, vNear_st, vIs_st, vIs_st, vIs_st, vIs_st, vIs_st, vIs_st, vBed_st, trivial⟩) (Below.refl _ w8).drew (Below.refl _ _) ?_ ?_)
       ·refine ⟨?_, ?_, ?_, ?_, ?_, ?_, ?_, ?_, ?_, ?_, ?_, ?_, ?_, ?_, ?_, ?_, ?_, ?_, ?_, ?_, ?_, trivial⟩
        ·intro a W hG hR hO hp; have h7 := hO.slot 7 (by kernel_rfl); refine wp_yields (v := .pointer (some ⟨ub, 1, none⟩)) ?_ ⟨_, rfl, rfl, Below.refl _ _, hG⟩; simp [slotOf] at h7; simp [execOp, go_sem, h7]
        ·intro a W hG hR hO hp; have h59 : slotOf a 59 = .pointer (some ⟨ub, 1, none⟩) := hp.1; have c0 := keep_cell u1 hG; refine wp_yields (v := .slice (some ⟨lg, lo, none⟩) l.length c) ?_ ⟨_, rfl, rfl, Below.refl _ _, hG⟩; simp [slotOf] at h59; simp [execOp, go_sem, h59, c0]
        ·intro a W hG hR hO hp; have h9 := hO.slot 9 (by kernel_rfl); refine wp_yields (v := vi i) ?_ ⟨_, rfl, rfl, Below.refl _ _, hG⟩; simp [slotOf] at h9; simp [execOp, go_sem, h9]
        ·intro a W hG hR hO hp; have h61 : slotOf a 61 = vi i := hp.1; refine wp_yields (v := vi i1) ?_ ⟨_, rfl, rfl, Below.refl _ _, hG⟩; simp [slotOf] at h61; simp [execOp, go_sem, h61, e62]
        ·intro a W hG hR hO hp; have h60 : slotOf a 60 = .slice (some ⟨lg, lo, none⟩) l.length c := hp.1; have h62 : slotOf a 62 = vi i1 := hp.2.1; refine wp_yields (v := .pointer (some ⟨lg, lo + i1, none⟩)) ?_ ⟨_, rfl, rfl, Below.refl _ _, hG⟩; simp [slotOf] at h60 h62; simp [execOp, go_sem, h60, h62, hi1]
        ·intro a W hG hR hO hp; have h63 : slotOf a 63 = .pointer (some ⟨lg, lo + i1, none⟩) := hp.1; have c0 := keep_cell cp hG; refine wp_yields (v := vi p) ?_ ⟨_, rfl, rfl, Below.refl _ _, hG⟩; simp [slotOf] at h63; simp [execOp, go_sem, h63, c0]
        ·intro a W hG hR hO hp; have h64 : slotOf a 64 = vi p := hp.1; refine wp_yields (v := vi ((p : Int) - 1)) ?_ ⟨_, rfl, rfl, Below.refl _ _, hG⟩; simp [slotOf] at h64; simp [execOp, go_sem, h64, e65]
        ·intro a W hG hR hO hp; have h5 := hO.slot 5 (by kernel_rfl); refine wp_yields (v := .func (.func 31) #[] #[.pointer (some ⟨w.heap.size + 1, 0, none⟩)]) ?_ ⟨_, rfl, rfl, Below.refl _ _, hG⟩; simp [slotOf] at h5; simp [execOp, go_sem, h5]
        ·intro a W hG hR hO hp; have h9 := hO.slot 9 (by kernel_rfl); refine wp_yields (v := vi i) ?_ ⟨_, rfl, rfl, Below.refl _ _, hG⟩; simp [slotOf] at h9; simp [execOp, go_sem, h9]
        ·intro a W hG hR hO hp; have h67 : slotOf a 67 = vi i := hp.1; refine wp_yields (v := vi (2 + i : Nat)) ?_ ⟨_, rfl, rfl, Below.refl _ _, hG⟩; simp [slotOf] at h67; simp [execOp, go_sem, h67, e49]
        ·intro a W hG hR hO hp
         have h66 : slotOf a 66 = .func (.func 31) #[] #[.pointer (some ⟨w.heap.size + 1, 0, none⟩)] := hp.1
         have h68 : slotOf a 68 = vi (2 + i : Nat) := hp.2.1
         refine wp_enters (f := 31) (args := #[vi ((2 + i) : Nat), .pointer (some ⟨w.heap.size + 1, 0, none⟩)]) ?_ ((HWD.out (2 + i) W hG (by omega)).mono ?_)
         ·simp [slotOf] at h66 h68
          simp [go_sem, h66, h68]
         ·rintro e w' ⟨n, rfl, h1, hb⟩
          exact ⟨_, rfl, _, rfl, ⟨n, rfl, by omega⟩, hb, below_next hG hb⟩
        ·intro a W hG hR hO hp; have h69 := hp.1; obtain ⟨a9, h69, _⟩ := h69; obtain ⟨r9, hr9, er9, ew9⟩ := rem_natW a9 3 (by omega) (by omega); have er9 : (a9 : Int).tmod 3 = r9 := er9; refine wp_yields (v := vi r9) ?_ ⟨_, rfl, ⟨r9, rfl, hr9⟩, Below.refl _ _, hG⟩; simp [slotOf] at h69; simp [execOp, go_sem, h69, er9]
        ·intro a W hG hR hO hp; have h65 : slotOf a 65 = vi ((p : Int) - 1) := hp.1; have h70 := hp.2.1; obtain ⟨a9, h70, h1⟩ := h70; have e9 : IntKind.i64.wrap ((p : Int) - 1 + a9) = (p : Int) - 1 + a9 := IntWalk.i64_in _ (by omega); refine wp_yields (v := vi ((p : Int) - 1 + a9)) ?_ ⟨_, rfl, ⟨_, rfl, by omega, by omega⟩, Below.refl _ _, hG⟩; simp [slotOf] at h65 h70; simp [execOp, go_sem, h65, h70, e9]
        ·intro a W hG hR hO hp; have h71 := hp.1; obtain ⟨a9, h71, h1, h2⟩ := h71; obtain ⟨z, hz, hz1, hz2⟩ : ∃ z : Nat, mxI 0 a9 = z /\ p <= z + 1 /\ z <= p + 1 := ⟨(mxI 0 a9).toNat, by unfold mxI; split <;> omega, by unfold mxI; split <;> omega, by unfold mxI; split <;> omega⟩; refine wp_yields (v := vi z) ?_ ⟨_, rfl, ⟨z, rfl, hz1, hz2⟩, Below.refl _ _, hG⟩; simp [slotOf] at h71; rw [<- hz]; simp [go_sem, h71, mxI]
        ·intro a W hG hR hO hp; have h2 := hO.slot 2 (by kernel_rfl); refine wp_yields (v := .pointer (some ⟨w.heap.size, 0, none⟩)) ?_ ⟨_, rfl, rfl, Below.refl _ _, hG⟩; simp [slotOf] at h2; simp [execOp, go_sem, h2]
        ·intro a W hG hR hO hp; have h73 : slotOf a 73 = .pointer (some ⟨w.heap.size, 0, none⟩) := hp.1; have c0 := keep_cell x0 hG; refine wp_yields (v := .slice (some ⟨sa, so, none⟩) s.cs.length s.c) ?_ ⟨_, rfl, rfl, Below.refl _ _, hG⟩; simp [slotOf] at h73; simp [execOp, go_sem, h73, c0]
        ·intro a W hG hR hO hp; have h74 : slotOf a 74 = .slice (some ⟨sa, so, none⟩) s.cs.length s.c := hp.1; refine wp_yields (v := .pointer (some ⟨sa, so, none⟩)) ?_ ⟨_, rfl, rfl, Below.refl _ _, hG⟩; simp [slotOf] at h74; simp [execOp, go_sem, h74, hcne]
        ·intro a W hG hR hO hp; have h75 : slotOf a 75 = .pointer (some ⟨sa, so, none⟩) := hp.1; have c0 := keep_cell cy hG; refine wp_yields (v := .slice y0.a n y0.cp) ?_ ⟨_, rfl, rfl, Below.refl _ _, hG⟩; simp [slotOf] at h75; simp [execOp, go_sem, h75, c0]
        ·intro a W hG hR hO hp; have h76 : slotOf a 76 = .slice y0.a n y0.cp := hp.1; refine wp_yields (v := .int .i64 n) ?_ ⟨_, rfl, rfl, Below.refl _ _, hG⟩; simp [slotOf] at h76; simp [go_sem, h76]
        ·intro a W hG hR hO hp; have h77 : slotOf a 77 = .int .i64 n := hp.1; refine wp_yields (v := vi ((n : Int) - 1)) ?_ ⟨_, rfl, rfl, Below.refl _ _, hG⟩; simp [slotOf] at h77; simp [execOp, go_sem, h77, e78]
        ·intro a W hG hR hO hp; have h72 := hp.1; have h78 : slotOf a 78 = vi ((n : Int) - 1) := hp.2.1; obtain ⟨a9, h72, h1, h2⟩ := h72; obtain ⟨z, hz, hz1, hz2, hz3⟩ : ∃ z : Nat, mnI a9 ((n : Int) - 1) = z /\ p <= z + 1 /\ z <= p + 1 /\ z < n := ⟨(mnI a9 ((n : Int) - 1)).toNat, by unfold mnI; split <;> omega, by unfold mnI; split <;> omega, by unfold mnI; split <;> omega, by unfold mnI; split <;> omega⟩; refine wp_yields (v := vi z) ?_ ⟨_, rfl, ⟨z, rfl, hz1, hz2, hz3⟩, Below.refl _ _, hG⟩; simp [slotOf] at h72 h78; rw [<- hz]; simp [go_sem, h72, h78, mnI]
       ·intro w10 hG hR
        rintro _ rfl _ rfl _ rfl _ rfl _ rfl _ rfl _ rfl _ rfl _ rfl _ rfl _ - _ - _ - _ - _ rfl _ rfl _ rfl _ rfl _ rfl _ rfl _ ⟨z, rfl, hz1, hz2, hz⟩
        change wpList _ _ _ _ _ _
        simp only [Act.put, List.setIfInBounds_toArray, List.set_cons_zero, List.set_cons_succ, List.drop_succ_cons, List.drop_zero]
        have HWY : Hid (wayB n (l ++ [z])) := Lib.hid (way_snoc l z hz HWL.out (fun y hy => by
         rw [HP.out.1] at hy
         injection hy with hy
         omega))
        have HJ := Lib.hid (HJ8.out.next hG)
        clear hG hR x0 cy HWD HJ8 u1 cp e49 e62 e65 e78
        have hn1 := newer_allocH w10 (.cells #[vi z] 3)
        have HJ3 := Lib.hid (HJ.out.next hn1)
        have HCW : Hid ((w10.alloc (.cells #[vi z] 3)).cell? ⟨w10.heap.size, 0, none⟩ = some (vi z)) := Lib.hid ((Whole.made w10 3 #[vi z]).at 0 rfl)
        have HLB := Lib.hid (show l.length <= 12 by have := HLI.out; omega)
        clear hn1
        have u1 := HJ.out.bx.at 1 (v := .slice A l.length c) rfl
        go_wp2_with (at_builtin; go_loud ((refine wpList_plain rfl fun _ hK => wp_append_one (.tmp 81) (.tmp 83) 26 rfl w.heap.size 3 i0 (.int .i64 0) 8 Try.underlying26 HI.out.1 HI.out.2.1 HI.out.2.2.1 HI.out.2.2.2 rfl A l.length c (l.map fun x : Nat => vi x) rfl HJ3.out.own ⟨w10.heap.size, 0, none⟩ 1 (vi z) rfl HCW.out rfl (by have := HLB.out; unfold maxLen; omega) (by have := HLB.out; omega) HJ3.out.nw.size fun g2 c2 w5 hown hwh => hK _ _ ?_); have HE := Lib.hid (HJ3.out.app hown hwh); have p1 := HE.out.1.at 1 (v := .slice A l.length c) rfl; have pf1 := HE.out.1.free 1; clear hown hwh))
        refine ⟨⟨i + 1, l ++ [z], some ⟨g2, 0, none⟩, c2, rfl, by omega, by rw [List.length_append, HLI.out]; rfl, HWY.out, HE.out.2⟩, ?_⟩
        simp [intOf]
        omega
    ·obtain rfl : i = m := by omega
     have r0 := HJ.out.rb.at 0 (v := vi 0) rfl
     have r1 := HJ.out.rb.at 1 (v := .slice none 0 0) rfl
     have f0 := HJ.out.rb.free 0
     have f1 := HJ.out.rb.free 1
     have u0 := HJ.out.bx.at 0 (v := vi k) rfl
     have u1 := HJ.out.bx.at 1 (v := .slice A l.length c) rfl
     have hset := (HJ.out.rb.set 0 (vi k)).set 1 (.slice A l.length c)
     have z0 := hset.at 0 (v := vi k) rfl
     have z1 := hset.at 1 (v := .slice A l.length c) rfl
     have HF : Hid (newer w ((wr.setCell ⟨w.heap.size + 1 + 1, 0, none⟩ (vi k)).setCell ⟨w.heap.size + 1 + 1, 1, none⟩ (.slice A l.length c)) /\ ((wr.setCell ⟨w.heap.size + 1 + 1, 0, none⟩ (vi k)).setCell ⟨w.heap.size + 1 + 1, 1, none⟩ (.slice A l.length c)).ownsRow w.heap.size 3 1 (.slice A l.length c) l.length (l.map fun x : Nat => vi x)) := Lib.hid ⟨(HJ.out.nw.setCell (p := ⟨w.heap.size + 1 + 1, 0, none⟩) (by show w.heap.size <= w.heap.size + 1 + 1; omega) _).setCell (p := ⟨w.heap.size + 1 + 1, 1, none⟩) (by show w.heap.size <= w.heap.size + 1 + 1; omega) _, own_set (own_set HJ.out.own (own_ne HJ.out.own HJ.out.rb (by decide)) _) (own_ne HJ.out.own HJ.out.rb (by decide)) _⟩
     clear x0 cy HWD hset
     go_wp2_with fail
     refine bodyPost_ret (v := .agg #[vi k, .slice A l.length c]) (by simp [results, Try.results13, go_sem, z0, z1]) rfl ⟨⟨k, l.map (fun x : Nat => (x : Int)), A, c⟩, by simp [suV, suC], ?_, ⟨k, l, rfl, rfl, ?_⟩, HF.out.1⟩
     ·exact (row_nats rfl HF.out.2).2
     ·exact ⟨by have := HLI.out; have := HMK.out; omega, by have := HLI.out; have := HMK.out; omega, HWL.out⟩
end

section
open Go.ChangeShapes Go.WideShapes Go.ChangeAt Go.RowKit Go.Deep
section
open Go.RowKit Go.Shelf Go.Deep
def FacK (s : Sd) (frm : Int) (l : List Int) (e lo hi : Int) (tl : List Rl) : Prop := tl.length <= 1000 /\ (e = 7 -> (facO s frm l tl).2 = 7) /\ (e = 0 -> (facO s frm l tl).2 = 0 /\ lo <= (facO s frm l tl).1 /\ (facO s frm l tl).1 <= hi)
def vTruK (s : Sd) (frm : Int) (l : List Int) (e lo hi : Int) (v : Value) (W : World) : Prop := ∃ A c tl, v = .slice A (tl : List Rl).length c /\ Row rlL 3 W W.heap.size A tl /\ FacK s frm l e lo hi tl
theorem vTruK_st {s : Sd} {frm : Int} {l : List Int} {e lo hi : Int} : ∀ v W W', vTruK s frm l e lo hi v W -> newer W W' -> vTruK s frm l e lo hi v W' := fun _ _ _ ⟨A, c, tl, h1, h2, h3⟩ hb => ⟨A, c, tl, h1, (h2.below hb).more hb.size, h3⟩
def vFac (e lo hi : Int) (v : Value) (_ : World) : Prop := ∃ p q, v = .tuple #[vi p, vi q] /\ (e = 7 -> q = 7) /\ (e = 0 -> q = 0 /\ lo <= p /\ p <= hi)
theorem vFac_st {e lo hi : Int} : ∀ v W W', vFac e lo hi v W -> newer W W' -> vFac e lo hi v W' := fun _ _ _ h _ => h
def vFp (e lo hi : Int) (v : Value) (_ : World) : Prop := ∃ p, v = vi p /\ (e = 0 -> lo <= p /\ p <= hi)
theorem vFp_st {e lo hi : Int} : ∀ v W W', vFp e lo hi v W -> newer W W' -> vFp e lo hi v W' := fun _ _ _ h _ => h
def vFq (e : Int) (v : Value) (_ : World) : Prop := ∃ q, v = vi q /\ (e = 7 -> q = 7) /\ (e = 0 -> q = 0)
theorem vFq_st {e : Int} : ∀ v W W', vFq e v W -> newer W W' -> vFq e v W' := fun _ _ _ h _ => h
theorem fits_len {bs : List Bd} {tl : List Rl} (h : fitsA bs tl = true) : tl.length = bs.length := (fitsA_iff.1 h).1
end
end

section
open Go.RowKit Go.Shelf Go.Deep
theorem kY {P : Program} {o : Oper} {a : Act} {W : World} {D : Value -> World -> Prop} {G : World -> Prop} {Q : Exit -> Act -> World -> Prop} {v : Value} (hG : G W) (hD : D v W) (h : (execOp a.eval o).run P W = .ok (.value v) W) : o.wp P a W (fun a' W' => ∃ v', a' = a.put o.dst v' /\ D v' W' /\ newer W W' /\ G W') Q := wp_yields h ⟨v, rfl, hD, Below.refl _ _, hG⟩
theorem kM {P : Program} {o : Oper} {a : Act} {W : World} {D : Value -> World -> Prop} {G : World -> Prop} {Q : Exit -> Act -> World -> Prop} {v : Value} (t : Tmp) (ho : o.op = .move (.tmp t)) (h : slotOf a t = v) (hD : D v W) (hG : G W) : o.wp P a W (fun a' W' => ∃ v', a' = a.put o.dst v' /\ D v' W' /\ newer W W' /\ G W') Q := by
 refine wp_yields (v := v) ?_ ⟨v, rfl, hD, Below.refl _ _, hG⟩
 unfold execOp
 rw [ho]
 simp only [slotOf] at h
 simp [go_sem, h]
theorem wp_append_all {α : Type} {enc : α -> List Value} {size : Nat} {P : Program} {w : World} {o : Oper} {a : Act} {K : Act -> World -> Prop} {Q : Exit -> Act -> World -> Prop} (base : Nat) (s x : Operand) (t e : TypeId) (i0 : TypeInfo) (z : Value) (bytes : Nat)
  (ht : P.underlying t = some (.slice e)) (hi0 : P.info? e = some i0) (hz0 : i0.zero = some z) (hz1 : i0.size = size) (hz2 : i0.bytes = bytes) (hzs : z.cells.size = size) (hs0 : 0 < size) (he : ∀ x, (enc x).length = size) (he1 : ∀ x, ∀ u ∈ enc x, u.oneCell' = true)
  (ho : o.op = .call { callee := .builtin .append, args := #[s, x], argTypes := #[t, t] })
  (A : Option Addr) (n c : Nat) (xs : List Value) (hs : a.eval s = .slice A n c) (hown : w.ownsRow base e size (.slice A n c) n xs)
  (l : List α) (A2 : Option Addr) (cp : Nat) (hx : a.eval x = .slice A2 l.length cp) (hr : Row enc size w w.heap.size A2 l) (h63 : n + l.length <= maxLen) (hbytes : (n + l.length) * bytes <= 140737488355328) (hbase : base <= w.heap.size)
  (h : ∀ B c' w', w'.ownsRow base e size (.slice B (n + l.length) c') (n + l.length) (xs ++ l.flatMap enc) -> w.grownBy w' (Value.slice A n c).ownBlock -> (∀ g, (Value.slice B (n + l.length) c').ownBlock = some g -> (Value.slice A n c).ownBlock = some g ∨ g = w.heap.size) -> K (a.put o.dst (.slice B (n + l.length) c')) w') : Oper.wp P o a w K Q := by
 rcases Nat.eq_zero_or_pos l.length with h0 | hpos
 ·obtain rfl : l = [] := List.eq_nil_of_length_eq_zero h0
  obtain ⟨hroom, _⟩ := own_room hown
  have hrun : (Builtin.append_ #[t, t] o.type #[.slice A n c, .slice A2 0 cp]).run P w = .ok (.slice A n c) w := by
   have hu := run_underlying (P := P) (w := w) ht
   rcases A with _ | ad <;> rcases A2 with _ | ad2 <;> simp [Builtin.append_, hu, sizeOf, typeInfo, hi0, Builtin.lenOf, Builtin.firstCells, loadCells, loadCellsFrom, storeCells, hroom]
  unfold Oper.wp
  simp only [List.length_nil] at hx
  simp [execOp, ho, resolve, invoke, builtin, hs, hx, hrun, Result.andThen]
  exact h A c w (by simpa using hown) (World.grownBy.refl _ _) (fun g hg => .inl hg)
 ·obtain ⟨b, off, rfl, hb, hc⟩ := hr (by intro e; rw [e] at hpos; simp at hpos)
  refine wp_append_lies w s x t ho base e i0 z size bytes ht hi0 hz0 hz1 hz2 hzs hs0 (.slice A n c) n xs hs hown ⟨b, off, none⟩ l.length cp (l.flatMap enc) hx (by rw [flat_len (enc := enc) (s := size) he]) (row_news (enc := enc) (s := size) hs0 he hr) (fun u hu => by
   obtain ⟨y, _, hy⟩ := List.mem_flatMap.1 hu
   exact he1 y u hy) hpos h63 hbytes hbase w.heap.size rfl ?_
  intro g cap w' h2 h3 h4 _
  refine h _ _ w' h2 h3 fun g' hg' => ?_
  obtain rfl : g = g' := by simpa [Value.ownBlock] using hg'
  exact h4
theorem below_row {w W W' : World} {base : Nat} {e : TypeId} {size n : Nat} {v : Value} {xs : List Value} (h : newer w W) (ho : W.ownsRow base e size v n xs) (hg : W.grownBy W' v.ownBlock) (hb : w.heap.size <= base) : newer w W' := by
 rcases Option.eq_none_or_eq_some v.ownBlock with e1 | ⟨q, e1⟩
 ·rw [e1] at hg
  exact newer_trans h (below_grown hg (fun q hq => by cases hq) (Nat.le_refl _))
 ·rw [e1] at hg
  exact Below.trans h (below_of_grown hg (Nat.le_trans hb (own_ge ho q e1)) h.size)
abbrev slpL (s : Sm) : List Value := [.slice s.a s.cs.length s.c, vi s.least]
structure SsOk (ss : List Sm) (A : Option Addr) (W : World) : Prop where
 row : Row slpL 2 W W.heap.size A ss
 at_ : ∀ s ∈ ss, SmOk s W
theorem SsOk.next {ss : List Sm} {A : Option Addr} {W W' : World} (h : SsOk ss A W) (hb : newer W W') : SsOk ss A W' := ⟨(h.row.below hb).more hb.size, fun s hs => (h.at_ s hs).next hb⟩
theorem rowSl {w : World} {B : Nat} {A : Option Addr} {l : List Sm} (h : Row slpL 2 w B A l) {k : Nat} {c : Sm} (hk : l[k]? = some c) :
  ∃ b off, A = some ⟨b, off, none⟩ /\ b < B /\ w.cell? ⟨b, off + k * 2, none⟩ = some (.slice c.a c.cs.length c.c) /\ w.cell? ⟨b, off + k * 2 + 1, none⟩ = some (vi c.least) := by
 obtain ⟨b, off, e, hb, hc⟩ := h (ne_nil_of_get hk)
 exact ⟨b, off, e, hb, hc k c hk 0 _ rfl, hc k c hk 1 _ rfl⟩
theorem Try.underlying22s : Try.prog.underlying 22 = some (.slice 38) := by kernel_rfl
section
variable {H : Type} {enc : TypeId × Value -> H} {w : World} {base : Nat} {spare : Nat -> Bool} {held : Bool} {fuel : Nat} {cs : List Value} {x : DataW H × List MemPlace}
theorem slope_cells (h : DataW.trod enc Try.prog w base spare held fuel 38 cs = some x) : ∃ y : Sm, cs = slpL y /\ SmOk y w := by
 obtain ⟨s, h1, h2⟩ := slope_open h
 exact ⟨s, h1, h2⟩
theorem slopes_open (h : DataW.trod enc Try.prog w base spare held fuel 22 cs = some x) : ∃ (D : Option Addr) (l : List Sm) (dp : Nat), cs = [.slice D l.length dp] /\ l.length <= maxLen /\ SsOk l D w := by
 obtain ⟨A, l, cp, e, hl, hr, hc⟩ := open_rowP (ec := slpL) Try.underlying22s Try.cells38 (fun _ => rfl) (by omega) slope_cells h
 exact ⟨A, l, cp, e, hl, hr, hc⟩
end
theorem info_in : (Try.prog.info? 3).map (fun i => (i.zero, i.size, i.bytes)) = some (some (vi 0), 1, 8) := by kernel_rfl
theorem info_nd : (Try.prog.info? 49).map (fun i => (i.zero, i.size, i.bytes)) = some (some (.agg #[vi 0, vi 0, vi 0]), 3, 24) := by kernel_rfl
theorem make_in (W : World) (n : Nat) (hn : n <= 1000) : (Instr.makeSlice 26 (.int .i64 (n : Int)) (.int .i64 (n : Int))).run Try.prog W = .ok (.slice (some ⟨W.heap.size, 0, none⟩) n n) (W.alloc (.cells (madeCells #[vi 0] n) 3)) := run_make_row' 26 3 (vi 0) 8 Try.underlying26 info_in rfl .i64 .i64 n (by omega) (by omega) W
theorem made_in (W : World) (n : Nat) (hn : n <= 1000) : (W.alloc (.cells (madeCells #[vi 0] n) 3)).ownsRow W.heap.size 3 1 (.slice (some ⟨W.heap.size, 0, none⟩) n n) n (List.replicate n (vi 0)) :=
 ⟨by simp, .inr ⟨W.heap.size, n, madeCells #[vi 0] n, rfl, Nat.le_refl _, Whole.made W 3 (madeCells #[vi 0] n), Nat.le_refl _, by unfold maxLen; omega, by rw [size_madeCells, Nat.mul_one], by rw [toList_madeCells_one, Nat.mul_one, List.take_of_length_le (by rw [List.length_replicate]; exact Nat.le_refl _)]⟩⟩
structure LacJ (w : World) (lb n : Nat) (xs : List Int) (W : World) : Prop where
 nw : newer w W
 own : W.ownsRow w.heap.size 3 1 (.slice (some ⟨lb, 0, none⟩) n n) n (xs.map vi)
theorem LacJ.next {w : World} {lb n : Nat} {xs : List Int} {W W' : World} (h : LacJ w lb n xs W) (hb : newer W W') : LacJ w lb n xs W' := ⟨newer_trans h.nw hb, own_below h.own hb⟩
theorem LacJ.set {w : World} {lb n : Nat} {xs : List Int} {W : World} (h : LacJ w lb n xs W) (i : Nat) (v : Int) : LacJ w lb n (xs.set i v) (W.setCell ⟨lb, i, none⟩ (vi v)) := by
 have hb : w.heap.size <= lb := own_ge h.own lb rfl
 have h1 := own_setAt (off := i) (u := vi v) h.own
 rw [<- List.map_set] at h1
 exact ⟨h.nw.setCell (p := ⟨lb, i, none⟩) hb _, h1⟩
def RdyTo (ss : List Sm) (i : Nat) : Prop := ∀ (j : Nat) (s : Sm), j < i -> ss[j]? = some s -> SdOk s.sd /\ s.sd.least <= (s.sd.cols.length : Int)
theorem RdyTo.step {ss : List Sm} {i : Nat} {s : Sm} (h : RdyTo ss i) (hs : ss[i]? = some s) (h1 : SdOk s.sd) (h2 : s.sd.least <= (s.sd.cols.length : Int)) : RdyTo ss (i + 1) := fun j t hj ht => by
 by_cases e : j = i
 ·subst e
  rw [hs] at ht
  injection ht with ht
  subst ht
  exact ⟨h1, h2⟩
 ·exact h j t (by omega) ht
structure NdJ (B0 xb : Nat) (p : Pm) (w : World) (K : List Nd) (A : Option Addr) (c : Nat) (W : World) : Prop where
 nw : newer w W
 bx : Whole W xb 28 #[vi p.years, vi p.slopes, .slice p.wa p.ws.length p.wc, .slice A K.length c, .slice p.va p.vs.length p.vc, .slice p.pa p.ps.length p.pc]
 own : W.ownsRow B0 49 3 (.slice A K.length c) K.length (K.flatMap ndL)
 lo : w.heap.size <= B0
 lp : B0 <= xb
theorem NdJ.next {B0 xb : Nat} {p : Pm} {w : World} {K : List Nd} {A : Option Addr} {c : Nat} {W W' : World} (h : NdJ B0 xb p w K A c W) (hb : newer W W') : NdJ B0 xb p w K A c W' := ⟨newer_trans h.nw hb, h.bx.below hb h.bx.lt, own_below h.own hb, h.lo, h.lp⟩
theorem NdJ.app {B0 xb : Nat} {p : Pm} {w : World} {K : List Nd} {A B : Option Addr} {c d : Nat} {W W' : World} (h : NdJ B0 xb p w K A c W) {m : Nd} (hown : W'.ownsRow B0 49 3 (.slice B (K.length + [m].length) d) (K.length + [m].length) (K.flatMap ndL ++ [m].flatMap ndL)) (hg : W.grownBy W' (Value.slice A K.length c).ownBlock) :
  Whole W' xb 28 #[vi p.years, vi p.slopes, .slice p.wa p.ws.length p.wc, .slice A K.length c, .slice p.va p.vs.length p.vc, .slice p.pa p.ps.length p.pc] /\ NdJ B0 xb p w (K ++ [m]) B d (W'.setCell ⟨xb, 3, none⟩ (.slice B (K.length + [m].length) d)) := by
 have hp := h.bx.grown hg (own_ne h.own h.bx (by decide)).symm
 have hn : newer w W' := below_row h.nw h.own hg h.lo
 have hl : (K ++ [m]).length = K.length + [m].length := List.length_append
 refine ⟨hp, hn.setCell (p := ⟨xb, 3, none⟩) (Nat.le_trans h.lo h.lp) _, ?_, ?_, h.lo, h.lp⟩
 ·rw [hl]
  exact hp.set 3 _
 ·rw [hl, List.flatMap_append]
  exact own_set hown (own_ne hown hp (by decide)) _
theorem ndL_one (x : Nd) : ∀ u ∈ ndL x, u.oneCell' = true := by
 intro u hu
 simp only [List.mem_cons, List.not_mem_nil, or_false] at hu
 rcases hu with rfl | rfl | rfl <;> rfl
theorem held_proj {p : Pm} {f : Int} {ss : List Sm} {K : List Nd} {A : Option Addr} {c : Nat} (hK : K = ndK f ss p.ns p.ns.length) : (⟨p.years, p.slopes, p.ws, p.wa, p.wc, K, A, c, p.vs, p.va, p.vc, p.ps, p.pa, p.pc⟩ : Pm).pj = heldQ p.pj f ss := by
 rw [hK]
 rfl
end

end Go.Proofs.Ytcdhhfgpdokkoaa
