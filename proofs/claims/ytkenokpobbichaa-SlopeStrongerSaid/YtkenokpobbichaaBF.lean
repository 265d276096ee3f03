/- Bytes and words of sixteen bits, as arguments; a word of a list; a number of a range, by a word. -/
import Derived.Test.YtkenokpobbichaaAI
namespace Go.Proofs.Ytkenokpobbichaa
open Go.ChangeShapes Go.WideShapes Go.ChangeAt Go.RowKit Go.Shelf Go.Deep

theorem Try.cells5 : Try.prog.cellsOf 5 = 1 := by kernel_rfl
theorem Try.cells62 : Try.prog.cellsOf 62 = 1 := by kernel_rfl
section
variable {H : Type} {enc : TypeId × Value → H} {w : World} {base : Nat} {spare : Nat → Bool} {held : Bool} {fuel : Nat} {cs : List Value} {x : DataW H × List MemPlace}
theorem byte_cells (h : DataW.trod enc Try.prog w base spare held fuel 5 cs = some x) : ∃ y : Byt, cs = byL y ∧ True := by
  obtain ⟨z, e, _, hw⟩ := DataW.trod_int Try.underlying5 h
  have hb : 0 ≤ z ∧ z ≤ 255 := by
    simp [Lit.wf] at hw
    exact hw
  exact ⟨⟨z, hb.1, hb.2⟩, e, trivial⟩
theorem half_cells (h : DataW.trod enc Try.prog w base spare held fuel 62 cs = some x) : ∃ y : Hlf, cs = hwL y ∧ True := by
  obtain ⟨z, e, _, hw⟩ := DataW.trod_int Try.underlying62 h
  have hb : 0 ≤ z ∧ z ≤ 65535 := by
    simp [Lit.wf] at hw
    exact hw
  exact ⟨⟨z, hb.1, hb.2⟩, e, trivial⟩
theorem bytes_open (h : DataW.trod enc Try.prog w base spare held fuel 65 cs = some x) : ∃ (D : Option Addr) (l : List Byt) (dp : Nat), cs = [.slice D l.length dp] ∧ l.length ≤ maxLen ∧ Row byL 1 w w.heap.size D l := by
  obtain ⟨A, l, cp, e, hl, hr, _⟩ := open_rowP (ec := byL) Try.underlying65 Try.cells5 (fun _ => rfl) (by omega) byte_cells h
  exact ⟨A, l, cp, e, hl, hr⟩
theorem halves_open (h : DataW.trod enc Try.prog w base spare held fuel 76 cs = some x) : ∃ (D : Option Addr) (l : List Hlf) (dp : Nat), cs = [.slice D l.length dp] ∧ l.length ≤ maxLen ∧ Row hwL 1 w w.heap.size D l := by
  obtain ⟨A, l, cp, e, hl, hr, _⟩ := open_rowP (ec := hwL) Try.underlying76 Try.cells62 (fun _ => rfl) (by omega) half_cells h
  exact ⟨A, l, cp, e, hl, hr⟩
end
set_option maxRecDepth 100000 in
set_option maxHeartbeats 1000000 in
theorem word_any (ws : List Byt) (A : Option Addr) (c wb i : Nat) (w : World) (hw : Whole w wb 65 #[.slice A ws.length c]) (hr : Row byL 1 w w.heap.size A ws) (hi : i ≤ 100000000) : Calls Try.prog 74 #[vi i, .pointer (some ⟨wb, 0, none⟩)] w fun e w' => ∃ n : Nat, e = .returned (vi n) ∧ n ≤ 255 ∧ newer w w' := by
  have c0 := hw.at 0 rfl
  by_cases hbe : ws = []
  · subst hbe
    clear hr
    go_enter Try.func74, Try.ntmps74
    go_wp2_with fail
    go_ret
    exact ⟨0, rfl, by omega, newer_refl _⟩
  · have hl0 : 0 < ws.length := List.length_pos_iff.2 hbe
    have hbn : ¬ (ws = []) := hbe
    obtain ⟨j, hj⟩ : ∃ j, j = i % ws.length := ⟨_, rfl⟩
    have hjl : j < ws.length := by rw [hj]; exact Nat.mod_lt _ hl0
    have hjn : (j : Int) < ws.length := by omega
    have ej : (i : Int).tmod ws.length = j := by rw [hj, Int.tmod_eq_emod_of_nonneg (by omega)]; exact (Int.natCast_emod _ _).symm
    obtain ⟨y, hy⟩ := get_of_lt hjl
    obtain ⟨ab, ao, rfl, _, cb⟩ := row_byte hr hy
    have hb0 := y.lo
    have hb1 := y.hi
    obtain ⟨yn, hyn⟩ : ∃ yn : Nat, y.n = yn := ⟨y.n.toNat, by omega⟩
    rw [hyn] at cb hb0 hb1
    have e31 : IntKind.i64.wrap (yn : Int) = yn := IntWalk.i64_in _ (by omega)
    have hcz : ¬ ((ws.length : Int) = 0) := by omega
    have HY := Lib.hid (And.intro hb0 hb1)
    clear hr hy hj hw hb0 hb1 hbe hyn
    go_enter Try.func74, Try.ntmps74
    go_upto_region 3 with fail
    refine wp_words (by kernel_rfl) (region_told 8 (by kernel_rfl) (by kernel_rfl) (fun W => Below w.heap.size w W) newer (pickD [vIs (.slice (some ⟨ab, ao, none⟩) ws.length c), vIs (.int .i64 i), vIs (.slice (some ⟨ab, ao, none⟩) ws.length c), vIs (.int .i64 ws.length), vIs (.int .i64 j), vIs (.pointer (some ⟨ab, ao + j, none⟩)), vIs (.int .u8 (yn : Int)), vIs (vi yn)]) (fun h k => newer_trans h k) (pickD_stable _ ⟨vIs_st, vIs_st, vIs_st, vIs_st, vIs_st, vIs_st, vIs_st, vIs_st, trivial⟩) (Below.refl _ w).drew (Below.refl _ _) ?_ ?_)
    · refine ⟨?_, ?_, ?_, ?_, ?_, ?_, ?_, ?_, trivial⟩
      · intro a W hG hR hO hp
        have h1 := hO.slot 1 (by kernel_rfl)
        have c0 := keep_cell c0 hG
        refine wp_yields (v := .slice (some ⟨ab, ao, none⟩) ws.length c) ?_ ⟨_, rfl, rfl, Below.refl _ _, hG⟩
        simp [slotOf] at h1
        simp [execOp, go_sem, h1, c0]
      · intro a W hG hR hO hp
        have h0 := hO.slot 0 (by kernel_rfl)
        refine wp_yields (v := .int .i64 i) ?_ ⟨_, rfl, rfl, Below.refl _ _, hG⟩
        simp [slotOf] at h0
        simp [execOp, go_sem, h0]
      · intro a W hG hR hO hp
        have h1 := hO.slot 1 (by kernel_rfl)
        have c0 := keep_cell c0 hG
        refine wp_yields (v := .slice (some ⟨ab, ao, none⟩) ws.length c) ?_ ⟨_, rfl, rfl, Below.refl _ _, hG⟩
        simp [slotOf] at h1
        simp [execOp, go_sem, h1, c0]
      · intro a W hG hR hO hp
        have h9 : slotOf a 9 = .slice (some ⟨ab, ao, none⟩) ws.length c := hp.1
        refine wp_yields (v := .int .i64 ws.length) ?_ ⟨_, rfl, rfl, Below.refl _ _, hG⟩
        simp [slotOf] at h9
        simp [go_sem, h9]
      · intro a W hG hR hO hp
        have h8 : slotOf a 8 = .int .i64 i := hp.1
        have h10 : slotOf a 10 = .int .i64 ws.length := hp.2.1
        refine wp_yields (v := .int .i64 j) ?_ ⟨_, rfl, rfl, Below.refl _ _, hG⟩
        simp [slotOf] at h8 h10
        simp [execOp, go_sem, h8, h10, ej, hbn]
      · intro a W hG hR hO hp
        have h7 : slotOf a 7 = .slice (some ⟨ab, ao, none⟩) ws.length c := hp.1
        have h11 : slotOf a 11 = .int .i64 j := hp.2.1
        refine wp_yields (v := .pointer (some ⟨ab, ao + j, none⟩)) ?_ ⟨_, rfl, rfl, Below.refl _ _, hG⟩
        simp [slotOf] at h7 h11
        simp [execOp, go_sem, h7, h11, hjn]
      · intro a W hG hR hO hp
        have h12 : slotOf a 12 = .pointer (some ⟨ab, ao + j, none⟩) := hp.1
        have c0 := keep_cell cb hG
        refine wp_yields (v := .int .u8 (yn : Int)) ?_ ⟨_, rfl, rfl, Below.refl _ _, hG⟩
        simp [slotOf] at h12
        simp [execOp, go_sem, h12, c0]
      · intro a W hG hR hO hp
        have h13 : slotOf a 13 = .int .u8 (yn : Int) := hp.1
        refine wp_yields (v := vi yn) ?_ ⟨_, rfl, rfl, Below.refl _ _, hG⟩
        simp [slotOf] at h13
        simp [execOp, go_sem, h13, e31]
    · intro wz hG hR
      rintro _ rfl _ rfl _ rfl _ rfl _ rfl _ rfl _ rfl _ rfl
      change wpList _ _ _ _ _ _
      simp only [Act.put, List.setIfInBounds_toArray, List.set_cons_zero, List.set_cons_succ, List.drop_succ_cons, List.drop_zero]
      have HE := Lib.hid hG
      clear hG hR
      go_wp2_with fail
      go_ret
      exact ⟨yn, rfl, by have := HY.out; omega, HE.out⟩
set_option maxRecDepth 100000 in
set_option maxHeartbeats 1000000 in
theorem pick_any (r : Rg) (x : Int) (w : World) (x0 : 0 ≤ x) (x1 : x ≤ 65535) (h0 : 0 ≤ r.lo) (h1 : r.lo ≤ r.hi) (h2 : r.hi ≤ 100000) : Calls Try.prog 77 #[rgV r, .int .u16 x] w fun e w' => ∃ v, e = .returned (vi v) ∧ r.lo ≤ v ∧ v ≤ r.hi ∧ newer w w' := by
  have e8 : IntKind.i64.wrap x = x := IntWalk.i64_in _ (by omega)
  obtain ⟨dd, hdd⟩ : ∃ dd, dd = r.hi - r.lo := ⟨_, rfl⟩
  have e13 : IntKind.i64.wrap (r.hi - r.lo) = dd := by rw [← hdd]; exact IntWalk.i64_in _ (by omega)
  obtain ⟨mm, hmm⟩ : ∃ mm, mm = dd + 1 := ⟨_, rfl⟩
  have e14 : IntKind.i64.wrap (dd + 1) = mm := by rw [← hmm]; exact IntWalk.i64_in _ (by omega)
  have hm0 : ¬ (mm = 0) := by omega
  obtain ⟨kc, hkc⟩ : ∃ kc, kc = x % mm := ⟨_, rfl⟩
  have e15 : x.tmod mm = kc := by rw [hkc]; exact Int.tmod_eq_emod_of_nonneg x0
  have hk1 : 0 ≤ kc ∧ kc < mm := by rw [hkc]; exact ⟨Int.emod_nonneg _ hm0, Int.emod_lt_of_pos _ (by omega)⟩
  obtain ⟨vv, hvv⟩ : ∃ vv, vv = r.lo + kc := ⟨_, rfl⟩
  have e16 : IntKind.i64.wrap (r.lo + kc) = vv := by rw [← hvv]; exact IntWalk.i64_in _ (by omega)
  have HV := Lib.hid (show r.lo ≤ vv ∧ vv ≤ r.hi by omega)
  have H0 := Lib.hid (And.intro (newer_allocH w (.cells #[vi r.lo, vi r.hi] 42)) (Whole.made w 42 #[vi r.lo, vi r.hi]))
  clear x0 x1
  have x0 := H0.out.2.at 0 (v := vi r.lo) rfl
  have x1 := H0.out.2.at 1 (v := vi r.hi) rfl
  clear h0 h1 h2 hdd hmm hkc hk1 hvv
  go_enter Try.func77, Try.ntmps77
  go_upto_region 1 with fail
  refine wp_words (by kernel_rfl) (region_told 12 (by kernel_rfl) (by kernel_rfl) (fun W => Below (w.alloc (.cells #[vi r.lo, vi r.hi] 42)).heap.size (w.alloc (.cells #[vi r.lo, vi r.hi] 42)) W) newer (pickD [vIs (.pointer (some ⟨w.heap.size, 0, none⟩)), vIs (vi r.lo), vIs (.int .u16 x), vIs (vi x), vIs (.pointer (some ⟨w.heap.size, 1, none⟩)), vIs (vi r.hi), vIs (.pointer (some ⟨w.heap.size, 0, none⟩)), vIs (vi r.lo), vIs (vi dd), vIs (vi mm), vIs (vi kc), vIs (vi vv)]) (fun h k => newer_trans h k) (pickD_stable _ ⟨vIs_st, vIs_st, vIs_st, vIs_st, vIs_st, vIs_st, vIs_st, vIs_st, vIs_st, vIs_st, vIs_st, vIs_st, trivial⟩) (Below.refl _ (w.alloc (.cells #[vi r.lo, vi r.hi] 42))).drew (Below.refl _ _) ?_ ?_)
  · refine ⟨?_, ?_, ?_, ?_, ?_, ?_, ?_, ?_, ?_, ?_, ?_, ?_, trivial⟩
    · intro a W hG hR hO hp
      have h2 := hO.slot 2 (by kernel_rfl)
      refine wp_yields (v := .pointer (some ⟨w.heap.size, 0, none⟩)) ?_ ⟨_, rfl, rfl, Below.refl _ _, hG⟩
      simp [slotOf] at h2
      simp [execOp, go_sem, h2]
    · intro a W hG hR hO hp
      have h5 : slotOf a 5 = .pointer (some ⟨w.heap.size, 0, none⟩) := hp.1
      have c0 := keep_cell x0 hG
      refine wp_yields (v := vi r.lo) ?_ ⟨_, rfl, rfl, Below.refl _ _, hG⟩
      simp [slotOf] at h5
      simp [execOp, go_sem, h5, c0]
    · intro a W hG hR hO hp
      have h1 := hO.slot 1 (by kernel_rfl)
      refine wp_yields (v := .int .u16 x) ?_ ⟨_, rfl, rfl, Below.refl _ _, hG⟩
      simp [slotOf] at h1
      simp [execOp, go_sem, h1]
    · intro a W hG hR hO hp
      have h7 : slotOf a 7 = .int .u16 x := hp.1
      refine wp_yields (v := vi x) ?_ ⟨_, rfl, rfl, Below.refl _ _, hG⟩
      simp [slotOf] at h7
      simp [execOp, go_sem, h7, e8]
    · intro a W hG hR hO hp
      have h2 := hO.slot 2 (by kernel_rfl)
      refine wp_yields (v := .pointer (some ⟨w.heap.size, 1, none⟩)) ?_ ⟨_, rfl, rfl, Below.refl _ _, hG⟩
      simp [slotOf] at h2
      simp [execOp, go_sem, h2]
    · intro a W hG hR hO hp
      have h9 : slotOf a 9 = .pointer (some ⟨w.heap.size, 1, none⟩) := hp.1
      have c0 := keep_cell x1 hG
      refine wp_yields (v := vi r.hi) ?_ ⟨_, rfl, rfl, Below.refl _ _, hG⟩
      simp [slotOf] at h9
      simp [execOp, go_sem, h9, c0]
    · intro a W hG hR hO hp
      have h2 := hO.slot 2 (by kernel_rfl)
      refine wp_yields (v := .pointer (some ⟨w.heap.size, 0, none⟩)) ?_ ⟨_, rfl, rfl, Below.refl _ _, hG⟩
      simp [slotOf] at h2
      simp [execOp, go_sem, h2]
    · intro a W hG hR hO hp
      have h11 : slotOf a 11 = .pointer (some ⟨w.heap.size, 0, none⟩) := hp.1
      have c0 := keep_cell x0 hG
      refine wp_yields (v := vi r.lo) ?_ ⟨_, rfl, rfl, Below.refl _ _, hG⟩
      simp [slotOf] at h11
      simp [execOp, go_sem, h11, c0]
    · intro a W hG hR hO hp
      have h10 : slotOf a 10 = vi r.hi := hp.1
      have h12 : slotOf a 12 = vi r.lo := hp.2.1
      refine wp_yields (v := vi dd) ?_ ⟨_, rfl, rfl, Below.refl _ _, hG⟩
      simp [slotOf] at h10 h12
      simp [execOp, go_sem, h10, h12, e13]
    · intro a W hG hR hO hp
      have h13 : slotOf a 13 = vi dd := hp.1
      refine wp_yields (v := vi mm) ?_ ⟨_, rfl, rfl, Below.refl _ _, hG⟩
      simp [slotOf] at h13
      simp [execOp, go_sem, h13, e14]
    · intro a W hG hR hO hp
      have h8 : slotOf a 8 = vi x := hp.1
      have h14 : slotOf a 14 = vi mm := hp.2.1
      refine wp_yields (v := vi kc) ?_ ⟨_, rfl, rfl, Below.refl _ _, hG⟩
      simp [slotOf] at h8 h14
      simp [execOp, go_sem, h8, h14, e15, hm0]
    · intro a W hG hR hO hp
      have h6 : slotOf a 6 = vi r.lo := hp.1
      have h15 : slotOf a 15 = vi kc := hp.2.1
      refine wp_yields (v := vi vv) ?_ ⟨_, rfl, rfl, Below.refl _ _, hG⟩
      simp [slotOf] at h6 h15
      simp [execOp, go_sem, h6, h15, e16]
  · intro wz hG hR
    rintro _ rfl _ rfl _ rfl _ rfl _ rfl _ rfl _ rfl _ rfl _ rfl _ rfl _ rfl _ rfl
    change wpList _ _ _ _ _ _
    simp only [Act.put, List.setIfInBounds_toArray, List.set_cons_zero, List.set_cons_succ, List.drop_succ_cons, List.drop_zero]
    have HE := Lib.hid (newer_trans H0.out.1 hG)
    clear hG hR
    go_wp2_with fail
    go_ret
    exact ⟨vv, rfl, HV.out.1, HV.out.2, HE.out⟩

end Go.Proofs.Ytkenokpobbichaa
