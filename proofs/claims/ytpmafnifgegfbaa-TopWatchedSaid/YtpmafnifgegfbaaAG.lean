/- Surveys for the program; lists compared. -/
import Derived.Test.YtpmafnifgegfbaaAF
import Derived.BigQuiet
namespace Go.Proofs.Ytpmafnifgegfbaa
open Go.RowKit Go.Shelf Go.Deep

set_option maxRecDepth 100000 in
set_option maxHeartbeats 1000000 in
theorem lawInts (l m : List Int) (A B : Option Addr) (cp dp : Nat) (w : World) (hl : l.length ≤ 1000) (_ : m.length ≤ 1000) (hr : Row intL 1 w w.heap.size A l) (hs : Row intL 1 w w.heap.size B m) :
    Calls Try.prog 51 #[.slice A l.length cp, .slice B m.length dp] w fun e w' => e = .returned (.bool (decide (l = m))) ∧ Below w.heap.size w w' := by
  have HR := Lib.hid hr
  have HS := Lib.hid hs
  clear hr hs
  by_cases hlen : l.length = m.length
  case neg =>
    have hb0 : (l.length == m.length) = false := by simpa using hlen
    have hb1 : (l.length != m.length) = true := by simpa using hlen
    have hb2 : ((l.length : Int) == (m.length : Int)) = false := by simp; omega
    have hb3 : ((l.length : Int) != (m.length : Int)) = true := by simp; omega
    have HF := Lib.hid (show decide (l = m) = false from decide_eq_false (fun e => hlen (by rw [e])))
    clear hlen
    go_enter Try.func51, Try.ntmps51
    go_wp2_with fail
    go_ret
    exact ⟨by rw [HF.out]; rfl, Below.refl _ _⟩
  case pos =>
    have HLE := Lib.hid hlen
    obtain ⟨n, hn⟩ : ∃ n, n = l.length := ⟨_, rfl⟩
    rw [← hlen, ← hn]
    have HN := Lib.hid hn
    rw [← hn] at hl
    clear hlen hn
    go_enter Try.func51, Try.ntmps51
    go_wp2_with fail
    go_loopw [5] (fun s5 wr => ∃ k : Nat, k ≤ n ∧ s5 = .int .i64 k ∧ newer w wr ∧ goodTo2 l m k) (fun s5 _ => n - (intOf s5).toNat)
    case atStart => exact ⟨0, Nat.zero_le _, rfl, Below.refl _ _, fun _ h => by omega⟩
    case round =>
      obtain ⟨k, hk, rfl, hnw, he⟩ := hrel
      have HE := Lib.hid he
      clear he
      by_cases hlt : k < n
      · obtain ⟨x, hx⟩ := get_of_lt (l := l) (k := k) (by have := HN.out; omega)
        obtain ⟨y, hy⟩ := get_of_lt (l := m) (k := k) (by have := HN.out; have := HLE.out; omega)
        obtain ⟨ab, ao, rfl, _, ha⟩ := row1 (HR.out.below hnw) hx
        obtain ⟨bb, bo, rfl, _, hb⟩ := row1 (HS.out.below hnw) hy
        have hkn : (k : Int) < n := by omega
        have HXY := Lib.hid (And.intro hx hy)
        have HNW := Lib.hid hnw
        clear hx hy hnw
        cases hxy : (x == y)
        · have hxn : (x != y) = true := by simp [bne, hxy]
          have HF := Lib.hid (show decide (l = m) = false from decide_eq_false (fun e => by
            have h1 := HXY.out.1
            rw [e, HXY.out.2] at h1
            injection h1 with h1
            rw [h1] at hxy
            simp at hxy))
          go_wp2_with fail
          go_quiet (fail)
          go_wp2_with fail
          go_ret
          exact ⟨by rw [HF.out]; rfl, newer_trans HNW.out (newer_drewN _ _)⟩
        · have hxn : (x != y) = false := by simp [bne, hxy]
          have HF := Lib.hid (show goodTo2 l m (k + 1) from goodTo2_succ HE.out (by rw [HXY.out.1, HXY.out.2]; simpa using hxy))
          go_wp2_with fail
          go_quiet (fail)
          go_wp2_with fail
          go_roundw
          case rel => exact ⟨k + 1, by omega, by go_num, newer_trans HNW.out (newer_drewN _ _), HF.out⟩
          case measure => simp [intOf]; omega
      · have HF := Lib.hid (show decide (l = m) = true from decide_eq_true (goodTo2_all (by have := HN.out; have := HLE.out; omega) (HE.out) (by have := HN.out; omega)))
        have HNW := Lib.hid hnw
        clear hnw
        go_wp2_with fail
        go_ret
        exact ⟨by rw [HF.out]; rfl, HNW.out⟩

/-- Lists of numbers, in memory. -/
structure LlOk (xs : List Ln) (A : Option Addr) (W : World) : Prop where
  row : Row lnL 1 W W.heap.size A xs
  inn : ∀ x ∈ xs, Row intL 1 W W.heap.size x.a x.l
theorem LlOk.next {xs : List Ln} {A : Option Addr} {W W' : World} (h : LlOk xs A W) (hb : newer W W') : LlOk xs A W' :=
  ⟨(h.row.below hb).more hb.size, fun x hx => ((h.inn x hx).below hb).more hb.size⟩
theorem FoundOk.lists {y : Sm} {T : List (List (Option Int))} {b : Nat} {xs : List Ln} {ls : List Nat} {A1 : Option Addr} {c1 : Nat} {A2 : Option Addr} {c2 : Nat} {W : World} (h : FoundOk y T b xs ls A1 c1 A2 c2 W) : LlOk xs A1 W :=
  ⟨row_of_own (enc := lnL) (size := 1) (by decide) (fun _ => rfl) h.r1, fun x hx => row_of_own (enc := intL) (size := 1) (by decide) (fun _ => rfl) (by
    have h1 := h.xr x hx
    have h2 : x.l.flatMap intL = x.l.map vi := by rw [List.flatMap_def]; induction x.l with | nil => rfl | cons a t ih => simp only [List.map_cons, List.flatten_cons, ih]; rfl
    rw [h2]
    exact h1)⟩
/-- So far all lists are equal. -/
def goodL (xs zs : List Ln) (k : Nat) : Prop := ∀ (j : Nat) (x z : Ln), j < k → xs[j]? = some x → zs[j]? = some z → x.l = z.l
theorem goodL_succ {xs zs : List Ln} {k : Nat} {x z : Ln} (h : goodL xs zs k) (hx : xs[k]? = some x) (hz : zs[k]? = some z) (he : x.l = z.l) : goodL xs zs (k + 1) := fun j a b hj ha hb => by
  by_cases e : j = k
  · subst e
    rw [hx] at ha
    rw [hz] at hb
    injection ha with ha
    injection hb with hb
    rw [← ha, ← hb, he]
  · exact h j a b (by omega) ha hb
theorem goodL_all {xs zs : List Ln} (hl : xs.length = zs.length) (h : goodL xs zs xs.length) : xs.map (·.l) = zs.map (·.l) := by
  refine List.ext_getElem? fun j => ?_
  rw [List.getElem?_map, List.getElem?_map]
  by_cases hj : j < xs.length
  · rw [List.getElem?_eq_getElem hj, List.getElem?_eq_getElem (by omega)]
    show some (xs[j].l) = some ((zs[j]'(by omega)).l)
    rw [h j xs[j] (zs[j]'(by omega)) hj (List.getElem?_eq_getElem hj) (List.getElem?_eq_getElem (by omega))]
  · rw [List.getElem?_eq_none (by omega), List.getElem?_eq_none (by omega)]
set_option maxRecDepth 100000 in
set_option maxHeartbeats 2000000 in
theorem turns_any (xs zs : List Ln) (A B : Option Addr) (cp dp : Nat) (w : World) (hl : xs.length ≤ 1000) (hxl : ∀ x ∈ xs, x.l.length ≤ 1000) (hzl : ∀ x ∈ zs, x.l.length ≤ 1000) (hr : LlOk xs A w) (hs : LlOk zs B w) :
    Calls Try.prog 35 #[.slice A xs.length cp, .slice B zs.length dp] w fun e w' => e = .returned (.bool (decide (xs.map (·.l) = zs.map (·.l)))) ∧ newer w w' := by
  have HR := Lib.hid hr
  have HS := Lib.hid hs
  have HXL := Lib.hid (And.intro hxl hzl)
  clear hr hs hxl hzl
  by_cases hlen : xs.length = zs.length
  case neg =>
    have hb3 : ((xs.length : Int) != (zs.length : Int)) = true := by simp; omega
    have hb2 : ((xs.length : Int) == (zs.length : Int)) = false := by simp; omega
    have hb0 : (xs.length == zs.length) = false := by simpa using hlen
    have HF := Lib.hid (show decide (xs.map (·.l) = zs.map (·.l)) = false from decide_eq_false (fun e => hlen (by have h := congrArg List.length e; rw [List.length_map, List.length_map] at h; exact h)))
    obtain ⟨r, hr⟩ : ∃ r, r = decide (xs.map (·.l) = zs.map (·.l)) := ⟨_, rfl⟩
    rw [← hr] at HF ⊢
    clear hlen hr
    go_enter Try.func35, Try.ntmps35
    go_wp2_with fail
    go_ret
    exact ⟨by rw [HF.out]; rfl, newer_refl _⟩
  case pos =>
    have HLE := Lib.hid hlen
    obtain ⟨n, hn⟩ : ∃ n, n = xs.length := ⟨_, rfl⟩
    rw [← hlen, ← hn]
    have HN := Lib.hid hn
    rw [← hn] at hl
    have HT := Lib.hid (show goodL xs zs xs.length → decide (xs.map (·.l) = zs.map (·.l)) = true from fun h => decide_eq_true (goodL_all hlen h))
    have HNO := Lib.hid (show ∀ (k : Nat) (x z : Ln), xs[k]? = some x → zs[k]? = some z → x.l ≠ z.l → decide (xs.map (·.l) = zs.map (·.l)) = false from fun k x z hx hz hne => decide_eq_false (fun e => hne (by
      have h := congrArg (fun q : List (List Int) => q[k]?) e
      simp only [List.getElem?_map, hx, hz, Option.map_some] at h
      injection h)))
    obtain ⟨r, hr⟩ : ∃ r, r = decide (xs.map (·.l) = zs.map (·.l)) := ⟨_, rfl⟩
    rw [← hr] at HT HNO ⊢
    clear hlen hn hr
    go_enter Try.func35, Try.ntmps35
    go_wp2_with fail
    go_loopw [5] (fun s5 wr => ∃ k : Nat, k ≤ n ∧ s5 = vi k ∧ newer w wr ∧ goodL xs zs k) (fun s5 _ => n - (intOf s5).toNat)
    case atStart => exact ⟨0, Nat.zero_le _, rfl, newer_refl _, fun _ _ _ h => by omega⟩
    case round =>
      obtain ⟨k, hk, rfl, hnw, he⟩ := hrel
      have HE := Lib.hid he
      clear he
      by_cases hlt : k < n
      · obtain ⟨x, hx⟩ := get_of_lt (l := xs) (k := k) (by have := HN.out; omega)
        obtain ⟨z, hz⟩ := get_of_lt (l := zs) (k := k) (by have := HN.out; have := HLE.out; omega)
        have hxr := HR.out.next hnw
        have hzr := HS.out.next hnw
        obtain ⟨ab, ao, ea, _, ca⟩ := rowLn hxr.row hx
        obtain ⟨bb, bo, eb, _, cb⟩ := rowLn hzr.row hz
        have hkn : (k : Int) < n := by omega
        have HXZ := Lib.hid (And.intro hx hz)
        have HNW := Lib.hid hnw
        have hxm := List.mem_of_getElem? hx
        have hzm := List.mem_of_getElem? hz
        obtain ⟨e, hee⟩ : ∃ e, e = decide (x.l = z.l) := ⟨_, rfl⟩
        have HIN : Hid (∀ W, Below wr.heap.size wr W → Calls Try.prog 51 #[.slice x.a x.l.length x.c, .slice z.a z.l.length z.c] W fun r w' => r = .returned (.bool e) ∧ newer W w') := Lib.hid (fun W hG => by
          rw [hee]
          exact lawInts x.l z.l x.a z.a x.c z.c W (HXL.out.1 x hxm) (HXL.out.2 z hzm) ((hxr.next hG).inn x hxm) ((hzr.next hG).inn z hzm))
        have HEE := Lib.hid hee
        clear hx hz hnw hxr hzr hxm hzm hee
        rw [ea, eb]
        go_upto_region 6 with fail
        refine wp_words (by kernel_rfl) (region_told 9 (by kernel_rfl) (by kernel_rfl) (fun W => Below wr.heap.size wr W) newer (pickD [vIs (.slice (some ⟨ab, ao, none⟩) n cp), vIs (.int .i64 k), vIs (.pointer (some ⟨ab, ao + k, none⟩)), vIs (.slice x.a x.l.length x.c), vIs (.slice (some ⟨bb, bo, none⟩) n dp), vIs (.int .i64 k), vIs (.pointer (some ⟨bb, bo + k, none⟩)), vIs (.slice z.a z.l.length z.c), vIs (.bool e)]) (fun h k => newer_trans h k) (pickD_stable _ ⟨vIs_st, vIs_st, vIs_st, vIs_st, vIs_st, vIs_st, vIs_st, vIs_st, vIs_st, trivial⟩) (Below.refl _ wr).drew (Below.refl _ _) ?_ ?_)
        · refine ⟨?_, ?_, ?_, ?_, ?_, ?_, ?_, ?_, ?_, trivial⟩
          · exact fun a W hG _ hO _ => kM 0 rfl (hO.slot 0 (by kernel_rfl)) rfl hG
          · exact fun a W hG _ hO _ => kM 5 rfl (hO.slot 5 (by kernel_rfl)) rfl hG
          · intro a W hG hR hO hp
            have h17 : slotOf a 17 = .slice (some ⟨ab, ao, none⟩) n cp := hp.1
            have h18 : slotOf a 18 = .int .i64 k := hp.2.1
            refine kY (v := .pointer (some ⟨ab, ao + k, none⟩)) hG rfl ?_
            simp [slotOf] at h17 h18
            simp [execOp, go_sem, h17, h18, hkn]
          · intro a W hG hR hO hp
            have h19 : slotOf a 19 = .pointer (some ⟨ab, ao + k, none⟩) := hp.1
            have c0 := keep_cell ca hG
            refine kY (v := .slice x.a x.l.length x.c) hG rfl ?_
            simp [slotOf] at h19
            simp [execOp, go_sem, h19, c0]
          · exact fun a W hG _ hO _ => kM 1 rfl (hO.slot 1 (by kernel_rfl)) rfl hG
          · exact fun a W hG _ hO _ => kM 5 rfl (hO.slot 5 (by kernel_rfl)) rfl hG
          · intro a W hG hR hO hp
            have h21 : slotOf a 21 = .slice (some ⟨bb, bo, none⟩) n dp := hp.1
            have h22 : slotOf a 22 = .int .i64 k := hp.2.1
            refine kY (v := .pointer (some ⟨bb, bo + k, none⟩)) hG rfl ?_
            simp [slotOf] at h21 h22
            simp [execOp, go_sem, h21, h22, hkn]
          · intro a W hG hR hO hp
            have h23 : slotOf a 23 = .pointer (some ⟨bb, bo + k, none⟩) := hp.1
            have c0 := keep_cell cb hG
            refine kY (v := .slice z.a z.l.length z.c) hG rfl ?_
            simp [slotOf] at h23
            simp [execOp, go_sem, h23, c0]
          · intro a W hG hR hO hp
            have h20 : slotOf a 20 = .slice x.a x.l.length x.c := hp.1
            have h24 : slotOf a 24 = .slice z.a z.l.length z.c := hp.2.1
            refine wp_enters (f := 51) (args := #[.slice x.a x.l.length x.c, .slice z.a z.l.length z.c]) ?_ ((HIN.out W hG).mono ?_)
            · simp [slotOf] at h20 h24
              simp [go_sem, h20, h24]
            · rintro e w' ⟨rfl, hb⟩
              exact ⟨_, rfl, _, rfl, rfl, hb, below_next hG hb⟩
        · intro w2 hG hR
          rintro _ rfl _ rfl _ rfl _ rfl _ rfl _ rfl _ rfl _ rfl _ rfl
          change wpList _ _ _ _ _ _
          simp only [Act.put, List.setIfInBounds_toArray, List.set_cons_zero, List.set_cons_succ, List.drop_succ_cons, List.drop_zero]
          have HNW2 := Lib.hid (newer_trans HNW.out hG)
          clear ca cb hG hR
          cases e with
          | false =>
            have HF := Lib.hid (show r = false from HNO.out k x z HXZ.out.1 HXZ.out.2 (of_decide_eq_false HEE.out.symm))
            go_wp2_with fail
            go_ret
            exact ⟨by rw [HF.out]; rfl, HNW2.out⟩
          | true =>
            have HF := Lib.hid (goodL_succ HE.out HXZ.out.1 HXZ.out.2 (of_decide_eq_true HEE.out.symm))
            go_wp2_with fail
            refine ⟨⟨k + 1, by omega, rfl, HNW2.out, HF.out⟩, ?_⟩
            simp [intOf]
            omega
      · have HF := Lib.hid (show r = true from HT.out (by have := HN.out; have h2 : k = xs.length := by omega
                                                          rw [← h2]; exact HE.out))
        have HNW := Lib.hid hnw
        clear hnw
        go_wp2_with fail
        go_ret
        exact ⟨by rw [HF.out]; rfl, HNW.out⟩
theorem info_move : (Try.prog.info? 116).map (fun i => (i.zero, i.size, i.bytes)) = some (some (.agg #[vi 0, vi 0]), 2, 16) := by kernel_rfl
/-- A row of one's own, as a value. -/
def vOwnV (B : Nat) (e : TypeId) (size n : Nat) (xs : List Value) (v : Value) (W : World) : Prop := ∃ A c, v = .slice A n c ∧ W.ownsRow B e size (.slice A n c) n xs
theorem vOwnV_st {B : Nat} {e : TypeId} {size n : Nat} {xs : List Value} : ∀ v W W', vOwnV B e size n xs v W → newer W W' → vOwnV B e size n xs v W' := fun _ _ _ ⟨A, c, h1, h2⟩ hb => ⟨A, c, h1, own_below h2 hb⟩
set_option maxRecDepth 100000 in
set_option maxHeartbeats 2000000 in
theorem lawField (f : List Mv) (A : Option Addr) (cp : Nat) (w : World) (hl : f.length ≤ 1000) (hr : Row mvL 2 w w.heap.size A f) : Calls Try.prog 45 #[.slice A f.length cp] w fun e w' => ∃ B d, e = .returned (.slice B f.length d) ∧ w'.ownsRow w.heap.size 116 2 (.slice B f.length d) f.length (f.flatMap mvL) ∧ newer w w' := by
  have HR := Lib.hid hr
  obtain ⟨i0, hi0, hz0, hz1, hz2⟩ := info_parts info_move
  have HI := Lib.hid (And.intro hi0 (And.intro hz0 (And.intro hz1 hz2)))
  clear hr hi0 hz0 hz1 hz2
  go_enter Try.func45, Try.ntmps45
  go_wp2_with fail
  go_loopw [3, 4] (fun s3 s4 wr => ∃ (i : Nat) (B : Option Addr) (d : Nat), i ≤ f.length ∧ s4 = vi i ∧ s3 = .slice B i d ∧ wr.ownsRow w.heap.size 116 2 (.slice B i d) i ((f.take i).flatMap mvL) ∧ newer w wr) (fun _ s4 _ => f.length - (intOf s4).toNat)
  case atStart => exact ⟨0, none, 0, Nat.zero_le _, rfl, rfl, ⟨rfl, .inl ⟨rfl, rfl⟩⟩, newer_refl _⟩
  case round =>
    obtain ⟨i, B, d, hi, rfl, rfl, hown, hnw⟩ := hrel
    have HJ := Lib.hid (And.intro hown hnw)
    by_cases hlt : i < f.length
    case neg =>
      obtain rfl : i = f.length := by omega
      have HL := Lib.hid (show f.take f.length = f from List.take_length)
      clear hown hnw
      have hge : ¬ (f.length : Int) < f.length := by omega
      go_wp2_with fail
      go_ret
      exact ⟨B, d, rfl, by have h := HJ.out.1; rw [HL.out] at h; exact h, HJ.out.2⟩
    case pos =>
      have hif : (i : Int) < f.length := by omega
      obtain ⟨m, hm⟩ : ∃ m, f[i]? = some m := ⟨_, List.getElem?_eq_getElem hlt⟩
      have HM := Lib.hid hm
      obtain ⟨fb, fo, et, hfb, m0, m1⟩ := row2 (HR.out.below hnw) hm
      have HFEW := Lib.hid (show i < 1000 by omega)
      have HSZ := Lib.hid hnw.size
      have HMN : Hid ((Value.slice B i d).ownBlock ≠ some fb) := Lib.hid (fun e => by have h1 := own_ge hown _ e; omega)
      have HNW := Lib.hid (own_lt hown)
      rw [et]
      clear hown hnw hm
      go_upto_region 5 with fail
      refine wp_words (by kernel_rfl) (region_tale 14 (by kernel_rfl) (by kernel_rfl) 13 (fun W => wr.grownBy W (Value.slice B i d).ownBlock) (fun W => W.ownsRow (w.heap.size) 116 2 (.slice B i d) i ((f.take i).flatMap mvL) ∧ newer wr W) (relAt 13 (fun W W' => W.grownBy W' (Value.slice B i d).ownBlock)) (pickD [vIs (.slice B i d), vIs (.slice (some ⟨fb, fo, none⟩) f.length cp), vIs (vi i), vIs (.pointer (some ⟨fb, fo + i * 2, none⟩)), vIs (.pointer (some ⟨fb, fo + i * 2, none⟩)), vIs (vi m.1), vIs (.slice (some ⟨fb, fo, none⟩) f.length cp), vIs (vi i), vIs (.pointer (some ⟨fb, fo + i * 2, none⟩)), vIs (.pointer (some ⟨fb, fo + i * 2 + 1, none⟩)), vIs (vi m.2), vIs (mvV m), vOne wr.heap.size 116 #[vi m.1, vi m.2], vOwnV w.heap.size 116 2 (i + 1) ((f.take i).flatMap mvL ++ [m].flatMap mvL)]) (allBut_ok (fun _ _ h => grown_of_newer h _) _ ⟨vIs_st, vIs_st, vIs_st, vIs_st, vIs_st, vIs_st, vIs_st, vIs_st, vIs_st, vIs_st, vIs_st, vIs_st, vOne_grown HNW.out, vOwnV_st, trivial⟩) (by decide) (grown_drew (grown_refl _ _)) ⟨HJ.out.1, (Below.refl _ _).drew⟩ ?_ ?_)
      · refine ⟨?_, ?_, ?_, ?_, ?_, ?_, ?_, ?_, ?_, ?_, ?_, ?_, ?_, ?_, trivial⟩
        · intro a W hG hG1 hO hp
          have h3 := hO.slot 3 (by kernel_rfl)
          refine wp_yields (v := .slice B i d) ?_ ⟨_, rfl, rfl, newer_refl _, hG, fun _ h => h⟩
          simp [slotOf] at h3
          simp [execOp, go_sem, h3]
        · intro a W hG hG1 hO hp
          have h0 := hO.slot 0 (by kernel_rfl)
          refine wp_yields (v := .slice (some ⟨fb, fo, none⟩) f.length cp) ?_ ⟨_, rfl, rfl, newer_refl _, hG, fun _ h => h⟩
          simp [slotOf] at h0
          simp [execOp, go_sem, h0]
        · intro a W hG hG1 hO hp
          have h4 := hO.slot 4 (by kernel_rfl)
          refine wp_yields (v := vi i) ?_ ⟨_, rfl, rfl, newer_refl _, hG, fun _ h => h⟩
          simp [slotOf] at h4
          simp [execOp, go_sem, h4]
        · intro a W hG hG1 hO hp
          have h12 : slotOf a 12 = .slice (some ⟨fb, fo, none⟩) f.length cp := hp.1
          have h13 : slotOf a 13 = vi i := hp.2.1
          refine wp_yields (v := .pointer (some ⟨fb, fo + i * 2, none⟩)) ?_ ⟨_, rfl, rfl, newer_refl _, hG, fun _ h => h⟩
          simp [slotOf] at h12 h13
          simp [execOp, go_sem, h12, h13, hif]
        · intro a W hG hG1 hO hp
          have h14 : slotOf a 14 = .pointer (some ⟨fb, fo + i * 2, none⟩) := hp.1
          refine wp_yields (v := .pointer (some ⟨fb, fo + i * 2, none⟩)) ?_ ⟨_, rfl, rfl, newer_refl _, hG, fun _ h => h⟩
          simp [slotOf] at h14
          simp [execOp, go_sem, h14]
        · intro a W hG hG1 hO hp
          have h15 : slotOf a 15 = .pointer (some ⟨fb, fo + i * 2, none⟩) := hp.1
          have c0 := hG.cell m0 HMN.out.symm
          refine wp_yields (v := vi m.1) ?_ ⟨_, rfl, rfl, newer_refl _, hG, fun _ h => h⟩
          simp [slotOf] at h15
          simp [execOp, go_sem, h15, c0]
        · intro a W hG hG1 hO hp
          have h0 := hO.slot 0 (by kernel_rfl)
          refine wp_yields (v := .slice (some ⟨fb, fo, none⟩) f.length cp) ?_ ⟨_, rfl, rfl, newer_refl _, hG, fun _ h => h⟩
          simp [slotOf] at h0
          simp [execOp, go_sem, h0]
        · intro a W hG hG1 hO hp
          have h4 := hO.slot 4 (by kernel_rfl)
          refine wp_yields (v := vi i) ?_ ⟨_, rfl, rfl, newer_refl _, hG, fun _ h => h⟩
          simp [slotOf] at h4
          simp [execOp, go_sem, h4]
        · intro a W hG hG1 hO hp
          have h17 : slotOf a 17 = .slice (some ⟨fb, fo, none⟩) f.length cp := hp.1
          have h18 : slotOf a 18 = vi i := hp.2.1
          refine wp_yields (v := .pointer (some ⟨fb, fo + i * 2, none⟩)) ?_ ⟨_, rfl, rfl, newer_refl _, hG, fun _ h => h⟩
          simp [slotOf] at h17 h18
          simp [execOp, go_sem, h17, h18, hif]
        · intro a W hG hG1 hO hp
          have h19 : slotOf a 19 = .pointer (some ⟨fb, fo + i * 2, none⟩) := hp.1
          refine wp_yields (v := .pointer (some ⟨fb, fo + i * 2 + 1, none⟩)) ?_ ⟨_, rfl, rfl, newer_refl _, hG, fun _ h => h⟩
          simp [slotOf] at h19
          simp [execOp, go_sem, h19]
        · intro a W hG hG1 hO hp
          have h20 : slotOf a 20 = .pointer (some ⟨fb, fo + i * 2 + 1, none⟩) := hp.1
          have c0 := hG.cell m1 HMN.out.symm
          refine wp_yields (v := vi m.2) ?_ ⟨_, rfl, rfl, newer_refl _, hG, fun _ h => h⟩
          simp [slotOf] at h20
          simp [execOp, go_sem, h20, c0]
        · intro a W hG hG1 hO hp
          have h16 : slotOf a 16 = vi m.1 := hp.1
          have h21 : slotOf a 21 = vi m.2 := hp.2.1
          refine wp_yields (v := mvV m) ?_ ⟨_, rfl, rfl, newer_refl _, hG, fun _ h => h⟩
          simp [slotOf] at h16 h21
          simp [execOp, go_sem, h16, h21]
        · intro a W hG hG1 hO hp
          have h22 : slotOf a 22 = mvV m := hp.1
          refine wp_makes (v := .slice (some ⟨W.heap.size, 0, none⟩) 1 1) (W' := W.alloc (.cells #[vi m.1, vi m.2] 116)) ?_ ⟨_, rfl, ⟨_, rfl, hG.size, Whole.made _ _ _⟩, newer_allocH _ _, grown_alloc hG _, fun _ h => ⟨own_below h.1 (newer_allocH _ _), newer_trans h.2 (newer_allocH _ _)⟩⟩
          simp [slotOf] at h22
          simp [execOp, go_sem, h22]
        · intro a W hG hG1 hO hp
          have h11 : slotOf a 11 = .slice B i d := hp.1
          have h23 := hp.2.1
          obtain ⟨nb, h23, hnb, hW⟩ := h23
          obtain ⟨ho, hnw⟩ := hG1 rfl
          obtain ⟨hi0, hz0, hz1, hz2⟩ := HI.out
          refine wp_append_all (enc := mvL) (size := 2) (w.heap.size) (.tmp 11) (.tmp 23) 93 116 i0 (.agg #[vi 0, vi 0]) 16 Try.underlying93 hi0 hz0 hz1 hz2 rfl (by omega) (fun _ => rfl) mvL_one rfl B i d ((f.take i).flatMap mvL) ((eval_slot a 11).trans h11) ho [m] (some ⟨nb, 0, none⟩) 1 ((eval_slot a 23).trans h23) (row_of_whole (enc := mvL) (s := 2) (fun _ => rfl) hW rfl) (by have := HFEW.out; unfold maxLen; simp only [List.length_singleton]; omega) (by have := HFEW.out; simp only [List.length_singleton]; omega) (Nat.le_trans HSZ.out hG.size) ?_
          intro B c' w1 hown hgr hat
          exact ⟨_, rfl, ⟨B, c', rfl, hown⟩, hgr, grown_trans' hG hgr, fun e => absurd rfl e⟩
      · intro w5 hG
        rintro _ rfl _ rfl _ rfl _ rfl _ rfl _ rfl _ rfl _ rfl _ rfl _ rfl _ rfl _ rfl _ hv23 _ ⟨B2, c2, rfl, hown⟩
        change wpList _ _ _ _ _ _
        simp only [Act.put, List.setIfInBounds_toArray, List.set_cons_zero, List.set_cons_succ, List.drop_succ_cons, List.drop_zero]
        have hb5 := below_row HJ.out.2 HJ.out.1 hG (Nat.le_refl _)
        have HE := Lib.hid (And.intro hown hb5)
        clear hG hown hb5 m0 m1 hv23
        go_wp2_with fail
        refine ⟨⟨i + 1, B2, c2, by omega, rfl, rfl, by have h := HE.out.1; rw [flat_take HM.out] at h; exact h, HE.out.2⟩, ?_⟩
        simp [intOf]
        omega
/-- A survey as it is first made. -/
def vBldS (B : Nat) (y : Sm) (v : Value) (W : World) : Prop := ∃ T tc R rc, v = .agg #[.slice none 0 0, vi y.s.strain, .slice T y.s.tools.length tc, vi y.s.day, .slice R y.s.reads.length rc] ∧ W.ownsRow B 112 7 (.slice T y.s.tools.length tc) y.s.tools.length (y.s.tools.flatMap tlL) ∧ W.ownsRow B 3 1 (.slice R y.s.reads.length rc) y.s.reads.length (y.s.reads.flatMap intL)
theorem vBldS_st {B : Nat} {y : Sm} : ∀ v W W', vBldS B y v W → newer W W' → vBldS B y v W' := fun _ _ _ ⟨V, vc, Q, qc, h1, h2, h3⟩ hb => ⟨V, vc, Q, qc, h1, own_below h2 hb, own_below h3 hb⟩
/-- A survey in rows of its own. -/
structure SvOwn (y : Sm) (B : Nat) (W : World) : Prop where
  sp : W.ownsRow B 56 4 (.slice y.sa y.s.spots.length y.sc) y.s.spots.length (y.s.spots.flatMap spL)
  tl : W.ownsRow B 112 7 (.slice y.ta y.s.tools.length y.tc) y.s.tools.length (y.s.tools.flatMap tlL)
  rd : W.ownsRow B 3 1 (.slice y.ra y.s.reads.length y.rc) y.s.reads.length (y.s.reads.flatMap intL)
theorem SvOwn.next {y : Sm} {B : Nat} {W W' : World} (h : SvOwn y B W) (hb : newer W W') : SvOwn y B W' := ⟨own_below h.sp hb, own_below h.tl hb, own_below h.rd hb⟩
theorem SvOwn.low {y : Sm} {B B' : Nat} {W : World} (h : SvOwn y B W) (hb : B' ≤ B) : SvOwn y B' W := ⟨own_more h.sp hb, own_more h.tl hb, own_more h.rd hb⟩
theorem SvOwn.ok {y : Sm} {B : Nat} {W : World} (h : SvOwn y B W) : SmOk y W :=
  ⟨row_of_own (enc := spL) (size := 4) (by decide) (fun _ => rfl) h.sp, row_of_own (enc := tlL) (size := 7) (by decide) (fun _ => rfl) h.tl, row_of_own (enc := intL) (size := 1) (by decide) (fun _ => rfl) h.rd⟩
/-- A survey that is being made. -/
structure SvA (y : Sm) (w : World) (ob : Nat) (T : Option Addr) (tc : Nat) (R : Option Addr) (rc : Nat) (A : Option Addr) (i c : Nat) (W : World) : Prop where
  nw : newer w W
  b0 : Whole W w.heap.size 26 (smC y)
  b1 : Whole W (w.heap.size + 1) 40 #[.slice none 0 0, vi 0, .slice none 0 0, vi 0, .slice none 0 0]
  oz : Whole W ob 40 #[.slice A i c, vi y.s.strain, .slice T y.s.tools.length tc, vi y.s.day, .slice R y.s.reads.length rc]
  lo : w.heap.size + 1 < ob
  sp : W.ownsRow w.heap.size 56 4 (.slice A i c) i ((y.s.spots.take i).flatMap spL)
  tl : W.ownsRow w.heap.size 112 7 (.slice T y.s.tools.length tc) y.s.tools.length (y.s.tools.flatMap tlL)
  rd : W.ownsRow w.heap.size 3 1 (.slice R y.s.reads.length rc) y.s.reads.length (y.s.reads.flatMap intL)
theorem SvA.add {y : Sm} {w W W' : World} {ob : Nat} {T R A B : Option Addr} {tc rc i c c2 : Nat} {p : Sp} (h : SvA y w ob T tc R rc A i c W) (hg : W.grownBy W' (Value.slice A i c).ownBlock) (hp : y.s.spots[i]? = some p) (ho : W'.ownsRow w.heap.size 56 4 (.slice B (i + 1) c2) (i + 1) ((y.s.spots.take i).flatMap spL ++ [p].flatMap spL)) :
    SvA y w ob T tc R rc B (i + 1) c2 (W'.setCell ⟨ob, 0, none⟩ (.slice B (i + 1) c2)) := by
  have o1 : Whole W' ob 40 _ := h.oz.grown hg (own_ne h.sp h.oz (by decide)).symm
  have far : ∀ {e : TypeId} {s n : Nat} {v : Value} {ys : List Value}, W.ownsRow w.heap.size e s v n ys → e ≠ 56 → e ≠ 40 → (W'.setCell ⟨ob, 0, none⟩ (.slice B (i + 1) c2)).ownsRow w.heap.size e s v n ys := fun hv h1 h2 => by
    have h3 := hv.kept hg (own_apart hv h.sp h1)
    exact own_set h3 (own_ne h3 o1 h2) _
  have hs := h.nw.size
  have hlo := h.lo
  refine ⟨?_, (h.b0.grown hg (own_ne h.sp h.b0 (by decide)).symm).far (p := ⟨ob, 0, none⟩) (by dsimp only; omega) _, (h.b1.grown hg (own_ne h.sp h.b1 (by decide)).symm).far (p := ⟨ob, 0, none⟩) (by dsimp only; omega) _, o1.set 0 _, h.lo, ?_, far h.tl (by decide) (by decide), far h.rd (by decide) (by decide)⟩
  · exact (h.nw.grown hg hs (own_ge h.sp)).setCell (p := ⟨ob, 0, none⟩) (by dsimp only; omega) _
  · have h1 := own_set (g := ob) (i := 0) ho (own_ne ho o1 (by decide)) (.slice B (i + 1) c2)
    rw [flat_take hp] at h1
    exact h1
theorem own_put5 {W : World} {ob : Nat} {cs : Array Value} {base : Nat} {e t : TypeId} {s n : Nat} {v : Value} {xs : List Value} (hw : Whole W ob t cs) (ho : W.ownsRow base e s v n xs) (hne : e ≠ t) (u0 u1 u2 u3 u4 : Value) :
    (((((W.setCell ⟨ob, 0, none⟩ u0).setCell ⟨ob, 1, none⟩ u1).setCell ⟨ob, 2, none⟩ u2).setCell ⟨ob, 3, none⟩ u3).setCell ⟨ob, 4, none⟩ u4).ownsRow base e s v n xs := by
  have h0 := own_set (i := 0) ho (own_ne ho hw hne) u0
  have w0 := hw.set 0 u0
  have h1 := own_set (i := 1) h0 (own_ne h0 w0 hne) u1
  have w1 := w0.set 1 u1
  have h2 := own_set (i := 2) h1 (own_ne h1 w1 hne) u2
  have w2 := w1.set 2 u2
  have h3 := own_set (i := 3) h2 (own_ne h2 w2 hne) u3
  have w3 := w2.set 3 u3
  exact own_set (i := 4) h3 (own_ne h3 w3 hne) u4
set_option maxRecDepth 100000 in
set_option maxHeartbeats 4000000 in
theorem lawSurvey (y : Sm) (w : World) (hok : SmOk y w) (few : SmFew y) : Calls Try.prog 21 #[smV y] w fun e w' => ∃ y' : Sm, e = .returned (smV y') ∧ y'.s = y.s ∧ SvOwn y' w.heap.size w' ∧ newer w w' := by
  have hb1 := newer_trans (newer_allocH w (.cells (smC y) 26)) (newer_allocH (w.alloc (.cells (smC y) 26)) (.cells #[.slice none 0 0, vi 0, .slice none 0 0, vi 0, .slice none 0 0] 40))
  have m0 := (Whole.made w 26 (smC y)).alloc (.cells #[.slice none 0 0, vi 0, .slice none 0 0, vi 0, .slice none 0 0] 40)
  have m1 := Whole.made (w.alloc (.cells (smC y) 26)) 40 #[.slice none 0 0, vi 0, .slice none 0 0, vi 0, .slice none 0 0]
  simp only [World.size_alloc] at m1
  have H0 := Lib.hid (And.intro hb1 (And.intro m0 m1))
  have HOK := Lib.hid hok
  have HF := Lib.hid few
  obtain ⟨i3, hi0, hz0, hz1, hz2⟩ := info_parts info_int
  have HI3 := Lib.hid (And.intro hi0 (And.intro hz0 (And.intro hz1 hz2)))
  clear hi0 hz0 hz1 hz2
  obtain ⟨i0, hi0, hz0, hz1, hz2⟩ := info_parts info_spot
  have HI := Lib.hid (And.intro hi0 (And.intro hz0 (And.intro hz1 hz2)))
  clear hi0 hz0 hz1 hz2 hb1 m0 m1 hok few
  go_enter Try.func21, Try.ntmps21
  go_upto_region 1 with fail
  refine genQ (fun X => newer w X ∧ Whole X w.heap.size 26 (smC y) ∧ Whole X (w.heap.size + 1) 40 #[.slice none 0 0, vi 0, .slice none 0 0, vi 0, .slice none 0 0]) H0.out ?_
  clear H0
  rintro w1 ⟨hn1, m0, m1⟩
  have x0 := m0.at 0 (v := .slice y.sa y.s.spots.length y.sc) rfl
  have x1 := m0.at 1 (v := vi y.s.strain) rfl
  have x2 := m0.at 2 (v := .slice y.ta y.s.tools.length y.tc) rfl
  have x3 := m0.at 3 (v := vi y.s.day) rfl
  have x4 := m0.at 4 (v := .slice y.ra y.s.reads.length y.rc) rfl
  have HN1 := Lib.hid hn1
  have H1 := Lib.hid (And.intro m0 m1)
  clear hn1 m0 m1
  refine wp_words (by kernel_rfl) (region_told 12 (by kernel_rfl) (by kernel_rfl) (fun W => Below w1.heap.size w1 W) newer (pickD [vIs (.pointer (some ⟨w.heap.size, 1, none⟩)), vIs (vi y.s.strain), vIs (.pointer (some ⟨w.heap.size, 2, none⟩)), vIs (.slice y.ta y.s.tools.length y.tc), vOwn w1.heap.size 112 7 tlL y.s.tools, vIs (.pointer (some ⟨w.heap.size, 3, none⟩)), vIs (vi y.s.day), vIs (.pointer (some ⟨w.heap.size, 4, none⟩)), vIs (.slice y.ra y.s.reads.length y.rc), vOwn w1.heap.size 3 1 intL y.s.reads, vBldS w1.heap.size y, vNew w1.heap.size 40 #[.slice none 0 0, vi 0, .slice none 0 0, vi 0, .slice none 0 0]]) (fun h k => newer_trans h k) (pickD_stable _ ⟨vIs_st, vIs_st, vIs_st, vIs_st, vOwn_st, vIs_st, vIs_st, vIs_st, vIs_st, vOwn_st, vBldS_st, vNew_st, trivial⟩) (Below.refl _ w1).drew (Below.refl _ _) ?_ ?_)
  · refine ⟨?_, ?_, ?_, ?_, ?_, ?_, ?_, ?_, ?_, ?_, ?_, ?_, trivial⟩
    · intro a W hG hR hO hp
      have h1 := hO.slot 1 (by kernel_rfl)
      refine kY (v := .pointer (some ⟨w.heap.size, 1, none⟩)) hG rfl ?_
      simp [slotOf] at h1
      simp [execOp, go_sem, h1]
    · intro a W hG hR hO hp
      have h5 : slotOf a 5 = .pointer (some ⟨w.heap.size, 1, none⟩) := hp.1
      have c0 := keep_cell x1 hG
      refine kY (v := vi y.s.strain) hG rfl ?_
      simp [slotOf] at h5
      simp [execOp, go_sem, h5, c0]
    · intro a W hG hR hO hp
      have h1 := hO.slot 1 (by kernel_rfl)
      refine kY (v := .pointer (some ⟨w.heap.size, 2, none⟩)) hG rfl ?_
      simp [slotOf] at h1
      simp [execOp, go_sem, h1]
    · intro a W hG hR hO hp
      have h7 : slotOf a 7 = .pointer (some ⟨w.heap.size, 2, none⟩) := hp.1
      have c0 := keep_cell x2 hG
      refine kY (v := .slice y.ta y.s.tools.length y.tc) hG rfl ?_
      simp [slotOf] at h7
      simp [execOp, go_sem, h7, c0]
    · intro a W hG hR hO hp
      have h8 : slotOf a 8 = .slice y.ta y.s.tools.length y.tc := hp.1
      refine wp_enters (f := 54) (args := #[.slice y.ta y.s.tools.length y.tc]) ?_ ((lawTools y.s.tools y.ta y.tc W HF.out.tl (HOK.out.next (newer_trans HN1.out hG)).tl).mono ?_)
      · simp [slotOf] at h8
        simp [go_sem, h8]
      · rintro e w' ⟨B, d, rfl, ho, hb⟩
        exact ⟨_, rfl, _, rfl, ⟨B, d, rfl, own_more ho hG.size⟩, hb, below_next hG hb⟩
    · intro a W hG hR hO hp
      have h1 := hO.slot 1 (by kernel_rfl)
      refine kY (v := .pointer (some ⟨w.heap.size, 3, none⟩)) hG rfl ?_
      simp [slotOf] at h1
      simp [execOp, go_sem, h1]
    · intro a W hG hR hO hp
      have h10 : slotOf a 10 = .pointer (some ⟨w.heap.size, 3, none⟩) := hp.1
      have c0 := keep_cell x3 hG
      refine kY (v := vi y.s.day) hG rfl ?_
      simp [slotOf] at h10
      simp [execOp, go_sem, h10, c0]
    · intro a W hG hR hO hp
      have h1 := hO.slot 1 (by kernel_rfl)
      refine kY (v := .pointer (some ⟨w.heap.size, 4, none⟩)) hG rfl ?_
      simp [slotOf] at h1
      simp [execOp, go_sem, h1]
    · intro a W hG hR hO hp
      have h12 : slotOf a 12 = .pointer (some ⟨w.heap.size, 4, none⟩) := hp.1
      have c0 := keep_cell x4 hG
      refine kY (v := .slice y.ra y.s.reads.length y.rc) hG rfl ?_
      simp [slotOf] at h12
      simp [execOp, go_sem, h12, c0]
    · intro a W hG hR hO hp
      have h13 : slotOf a 13 = .slice y.ra y.s.reads.length y.rc := hp.1
      obtain ⟨hi0, hz0, hz1, hz2⟩ := HI3.out
      refine wp_append_all (enc := intL) (size := 1) w1.heap.size (.const (.slice none 0 0)) (.tmp 13) 24 3 i3 (.int .i64 0) 8 Try.underlying24 hi0 hz0 hz1 hz2 rfl (by omega) (fun _ => rfl) (fun x u hu => by obtain rfl := List.mem_singleton.1 hu; rfl) rfl none 0 0 [] rfl ⟨rfl, .inl ⟨rfl, rfl⟩⟩ y.s.reads y.ra y.rc ((eval_slot a 13).trans h13) (HOK.out.next (newer_trans HN1.out hG)).rd (by have := HF.out.rd; unfold maxLen; omega) (by have := HF.out.rd; omega) hG.size ?_
      intro B c w' hown hgr hat
      rw [List.nil_append, Nat.zero_add] at hown
      have hb : newer W w' := below_grown hgr (fun q hq => by cases hq) (Nat.le_refl _)
      rw [Nat.zero_add]
      exact ⟨_, rfl, ⟨B, c, rfl, hown⟩, hb, below_next hG hb⟩
    · intro a W hG hR hO hp
      have h6 : slotOf a 6 = vi y.s.strain := hp.1
      have h9 := hp.2.1
      have h11 : slotOf a 11 = vi y.s.day := hp.2.2.1
      have h14 := hp.2.2.2.1
      have h6 : slotOf a 6 = vi y.s.strain := hp.1
      obtain ⟨T, tc, h9, ho1⟩ := hp.2.1
      have h11 : slotOf a 11 = vi y.s.day := hp.2.2.1
      obtain ⟨R, rc, h14, ho2⟩ := hp.2.2.2.1
      refine wp_yields (v := .agg #[.slice none 0 0, vi y.s.strain, .slice T y.s.tools.length tc, vi y.s.day, .slice R y.s.reads.length rc]) ?_ ⟨_, rfl, ⟨T, tc, R, rc, rfl, ho1, ho2⟩, Below.refl _ _, hG⟩
      simp [slotOf] at h6 h9 h11 h14
      simp [execOp, go_sem, h6, h9, h11, h14]
    · intro a W hG hR hO hp
      refine wp_makes (v := .pointer (some ⟨W.heap.size, 0, none⟩)) (W' := W.alloc (.cells #[.slice none 0 0, vi 0, .slice none 0 0, vi 0, .slice none 0 0] 40)) ?_ ⟨_, rfl, ⟨_, rfl, hG.size, Whole.made _ _ _⟩, newer_allocH _ _, hG.alloc hG.size _⟩
      skip
      simp [execOp, go_sem]
  · intro w2 hG hR
    rintro _ rfl _ rfl _ rfl _ rfl _ hv9 _ rfl _ rfl _ rfl _ rfl _ hv14 _ ⟨T, tc, R, rc, rfl, hto, hro⟩ _ ⟨ob, rfl, hob, hwo⟩
    change wpList _ _ _ _ _ _
    simp only [Act.put, List.setIfInBounds_toArray, List.set_cons_zero, List.set_cons_succ, List.drop_succ_cons, List.drop_zero]
    have e0 := hwo.at 0 rfl
    have f0 := hwo.free 0
    have e1 := hwo.at 1 rfl
    have f1 := hwo.free 1
    have e2 := hwo.at 2 rfl
    have f2 := hwo.free 2
    have e3 := hwo.at 3 rfl
    have f3 := hwo.free 3
    have e4 := hwo.at 4 rfl
    have f4 := hwo.free 4
    have HW := Lib.hid (And.intro hG (And.intro hwo (And.intro hob (And.intro hto hro))))
    clear hG hR hwo hob hto hro hv9 hv14 x0 x1 x2 x3 x4
    go_wp2_with fail
    have HP0 : Hid (SvA y w ob T tc R rc none 0 0 ((((((w2).setCell ⟨ob, 0, none⟩ (.slice none 0 0)).setCell ⟨ob, 1, none⟩ (vi y.s.strain)).setCell ⟨ob, 2, none⟩ (.slice T y.s.tools.length tc)).setCell ⟨ob, 3, none⟩ (vi y.s.day)).setCell ⟨ob, 4, none⟩ (.slice R y.s.reads.length rc))) := Lib.hid (by
      have hn : newer w1 ((((((w2).setCell ⟨ob, 0, none⟩ (.slice none 0 0)).setCell ⟨ob, 1, none⟩ (vi y.s.strain)).setCell ⟨ob, 2, none⟩ (.slice T y.s.tools.length tc)).setCell ⟨ob, 3, none⟩ (vi y.s.day)).setCell ⟨ob, 4, none⟩ (.slice R y.s.reads.length rc)) := (((((HW.out.1).setCell (p := ⟨ob, 0, none⟩) (HW.out.2.2.1) (.slice none 0 0)).setCell (p := ⟨ob, 1, none⟩) (HW.out.2.2.1) (vi y.s.strain)).setCell (p := ⟨ob, 2, none⟩) (HW.out.2.2.1) (.slice T y.s.tools.length tc)).setCell (p := ⟨ob, 3, none⟩) (HW.out.2.2.1) (vi y.s.day)).setCell (p := ⟨ob, 4, none⟩) (HW.out.2.2.1) (.slice R y.s.reads.length rc)
      refine ⟨newer_trans HN1.out hn, H1.out.1.below hn H1.out.1.lt, H1.out.2.below hn H1.out.2.lt, (((((HW.out.2.1).set 0 (.slice none 0 0)).set 1 (vi y.s.strain)).set 2 (.slice T y.s.tools.length tc)).set 3 (vi y.s.day)).set 4 (.slice R y.s.reads.length rc), ?_, ⟨by simp, .inl ⟨rfl, rfl⟩⟩, own_put5 HW.out.2.1 (own_more HW.out.2.2.2.1 HN1.out.size) (by decide) _ _ _ _ _, own_put5 HW.out.2.1 (own_more HW.out.2.2.2.2 HN1.out.size) (by decide) _ _ _ _ _⟩
      have := H1.out.2.lt
      have := HW.out.2.2.1
      omega)
    clear HW H1 HN1 e0 e1 e2 e3 e4 f0 f1 f2 f3 f4
    go_loopw [4] (fun s4 wr => ∃ (i : Nat) (A : Option Addr) (c : Nat), i ≤ y.s.spots.length ∧ s4 = vi i ∧ SvA y w ob T tc R rc A i c wr) (fun s4 _ => y.s.spots.length - (intOf s4).toNat)
    case atStart => exact ⟨0, none, 0, Nat.zero_le _, rfl, HP0.out⟩
    case round =>
      obtain ⟨i, A, c, hi, rfl, hj⟩ := hrel
      clear HP0
      have HJ := Lib.hid hj
      have x0 := hj.b0.at 0 (v := .slice y.sa y.s.spots.length y.sc) rfl
      by_cases hlt : i < y.s.spots.length
      case pos =>
        have hin : (i : Int) < y.s.spots.length := by omega
        obtain ⟨p, hp⟩ : ∃ p, y.s.spots[i]? = some p := ⟨_, List.getElem?_eq_getElem hlt⟩
        have HP := Lib.hid hp
        obtain ⟨sb, so, et, hsb, p0, p1, p2, p3⟩ := row4 (HOK.out.sp.below hj.nw) hp
        have z0 := hj.oz.at 0 (v := .slice A i c) rfl
        have HFEW := Lib.hid (show i < 1000 by have := HF.out.sp; omega)
        have HSZ := Lib.hid hj.nw.size
        have HNW := Lib.hid (own_lt hj.sp)
        have HZN := Lib.hid (show some ob ≠ (Value.slice A i c).ownBlock from (own_ne hj.sp hj.oz (by decide)).symm)
        have HXN := Lib.hid (show some w.heap.size ≠ (Value.slice A i c).ownBlock from (own_ne hj.sp hj.b0 (by decide)).symm)
        have HSN := Lib.hid (show some sb ≠ (Value.slice A i c).ownBlock from fun e => by have h1 := own_ge hj.sp _ e.symm; omega)
        rw [et] at x0
        clear hj hp et
        go_upto_region 5 with fail
        refine wp_words (by kernel_rfl) (region_tale 20 (by kernel_rfl) (by kernel_rfl) 18 (fun W => wr.grownBy W (Value.slice A i c).ownBlock) (fun W => W.ownsRow (w.heap.size) 56 4 (.slice A i c) i ((y.s.spots.take i).flatMap spL) ∧ newer wr W) (relAt 18 (fun W W' => W.grownBy W' (Value.slice A i c).ownBlock)) (pickD [vIs (.pointer (some ⟨ob, 0, none⟩)), vIs (.slice A i c), vIs (.pointer (some ⟨w.heap.size, 0, none⟩)), vIs (.slice (some ⟨sb, so, none⟩) y.s.spots.length y.sc), vIs (vi i), vIs (.pointer (some ⟨sb, so + i * 4, none⟩)), vIs (.pointer (some ⟨sb, so + i * 4, none⟩)), vIs (rgV p.x), vIs (rgV p.x), vIs (.pointer (some ⟨w.heap.size, 0, none⟩)), vIs (.slice (some ⟨sb, so, none⟩) y.s.spots.length y.sc), vIs (vi i), vIs (.pointer (some ⟨sb, so + i * 4, none⟩)), vIs (.pointer (some ⟨sb, so + i * 4 + 2, none⟩)), vIs (rgV p.y), vIs (rgV p.y), vIs (spV p), vOne wr.heap.size 56 #[vi p.x.lo, vi p.x.hi, vi p.y.lo, vi p.y.hi], vOwnV w.heap.size 56 4 (i + 1) ((y.s.spots.take i).flatMap spL ++ [p].flatMap spL), vIs (.pointer (some ⟨ob, 0, none⟩))]) (allBut_ok (fun _ _ h => grown_of_newer h _) _ ⟨vIs_st, vIs_st, vIs_st, vIs_st, vIs_st, vIs_st, vIs_st, vIs_st, vIs_st, vIs_st, vIs_st, vIs_st, vIs_st, vIs_st, vIs_st, vIs_st, vIs_st, vOne_grown HNW.out, vOwnV_st, vIs_st, trivial⟩) (by decide) (grown_drew (grown_refl _ _)) ⟨HJ.out.sp, (Below.refl _ _).drew⟩ ?_ ?_)
        · refine ⟨?_, ?_, ?_, ?_, ?_, ?_, ?_, ?_, ?_, ?_, ?_, ?_, ?_, ?_, ?_, ?_, ?_, ?_, ?_, ?_, trivial⟩
          · intro a W hG hG1 hO hp
            have h3 := hO.slot 3 (by kernel_rfl)
            refine wp_yields (v := .pointer (some ⟨ob, 0, none⟩)) ?_ ⟨_, rfl, rfl, newer_refl _, hG, fun _ h => h⟩
            simp [slotOf] at h3
            simp [execOp, go_sem, h3]
          · intro a W hG hG1 hO hp
            have h23 : slotOf a 23 = .pointer (some ⟨ob, 0, none⟩) := hp.1
            have c0 := hG.cell z0 HZN.out
            refine wp_yields (v := .slice A i c) ?_ ⟨_, rfl, rfl, newer_refl _, hG, fun _ h => h⟩
            simp [slotOf] at h23
            simp [execOp, go_sem, h23, c0]
          · intro a W hG hG1 hO hp
            have h1 := hO.slot 1 (by kernel_rfl)
            refine wp_yields (v := .pointer (some ⟨w.heap.size, 0, none⟩)) ?_ ⟨_, rfl, rfl, newer_refl _, hG, fun _ h => h⟩
            simp [slotOf] at h1
            simp [execOp, go_sem, h1]
          · intro a W hG hG1 hO hp
            have h25 : slotOf a 25 = .pointer (some ⟨w.heap.size, 0, none⟩) := hp.1
            have c0 := hG.cell x0 HXN.out
            refine wp_yields (v := .slice (some ⟨sb, so, none⟩) y.s.spots.length y.sc) ?_ ⟨_, rfl, rfl, newer_refl _, hG, fun _ h => h⟩
            simp [slotOf] at h25
            simp [execOp, go_sem, h25, c0]
          · intro a W hG hG1 hO hp
            have h4 := hO.slot 4 (by kernel_rfl)
            refine wp_yields (v := vi i) ?_ ⟨_, rfl, rfl, newer_refl _, hG, fun _ h => h⟩
            simp [slotOf] at h4
            simp [execOp, go_sem, h4]
          · intro a W hG hG1 hO hp
            have h26 : slotOf a 26 = .slice (some ⟨sb, so, none⟩) y.s.spots.length y.sc := hp.1
            have h27 : slotOf a 27 = vi i := hp.2.1
            refine wp_yields (v := .pointer (some ⟨sb, so + i * 4, none⟩)) ?_ ⟨_, rfl, rfl, newer_refl _, hG, fun _ h => h⟩
            simp [slotOf] at h26 h27
            simp [execOp, go_sem, h26, h27, hin]
          · intro a W hG hG1 hO hp
            have h28 : slotOf a 28 = .pointer (some ⟨sb, so + i * 4, none⟩) := hp.1
            refine wp_yields (v := .pointer (some ⟨sb, so + i * 4, none⟩)) ?_ ⟨_, rfl, rfl, newer_refl _, hG, fun _ h => h⟩
            simp [slotOf] at h28
            simp [execOp, go_sem, h28]
          · intro a W hG hG1 hO hp
            have h29 : slotOf a 29 = .pointer (some ⟨sb, so + i * 4, none⟩) := hp.1
            have c0 := hG.cell p0 HSN.out
            have c1 := hG.cell p1 HSN.out
            refine wp_yields (v := rgV p.x) ?_ ⟨_, rfl, rfl, newer_refl _, hG, fun _ h => h⟩
            simp [slotOf] at h29
            simp [execOp, go_sem, h29, c0, c1]
          · intro a W hG hG1 hO hp
            have h30 : slotOf a 30 = rgV p.x := hp.1
            refine wp_enters (f := 38) (args := #[rgV p.x]) ?_ ((to_any p.x W).mono ?_)
            · simp [slotOf] at h30
              simp [go_sem, h30]
            · rintro e w' ⟨rfl, hb⟩
              exact ⟨_, rfl, _, rfl, rfl, hb, grown_below hG hb, fun _ h => ⟨own_below h.1 hb, newer_trans h.2 hb⟩⟩
          · intro a W hG hG1 hO hp
            have h1 := hO.slot 1 (by kernel_rfl)
            refine wp_yields (v := .pointer (some ⟨w.heap.size, 0, none⟩)) ?_ ⟨_, rfl, rfl, newer_refl _, hG, fun _ h => h⟩
            simp [slotOf] at h1
            simp [execOp, go_sem, h1]
          · intro a W hG hG1 hO hp
            have h32 : slotOf a 32 = .pointer (some ⟨w.heap.size, 0, none⟩) := hp.1
            have c0 := hG.cell x0 HXN.out
            refine wp_yields (v := .slice (some ⟨sb, so, none⟩) y.s.spots.length y.sc) ?_ ⟨_, rfl, rfl, newer_refl _, hG, fun _ h => h⟩
            simp [slotOf] at h32
            simp [execOp, go_sem, h32, c0]
          · intro a W hG hG1 hO hp
            have h4 := hO.slot 4 (by kernel_rfl)
            refine wp_yields (v := vi i) ?_ ⟨_, rfl, rfl, newer_refl _, hG, fun _ h => h⟩
            simp [slotOf] at h4
            simp [execOp, go_sem, h4]
          · intro a W hG hG1 hO hp
            have h33 : slotOf a 33 = .slice (some ⟨sb, so, none⟩) y.s.spots.length y.sc := hp.1
            have h34 : slotOf a 34 = vi i := hp.2.1
            refine wp_yields (v := .pointer (some ⟨sb, so + i * 4, none⟩)) ?_ ⟨_, rfl, rfl, newer_refl _, hG, fun _ h => h⟩
            simp [slotOf] at h33 h34
            simp [execOp, go_sem, h33, h34, hin]
          · intro a W hG hG1 hO hp
            have h35 : slotOf a 35 = .pointer (some ⟨sb, so + i * 4, none⟩) := hp.1
            refine wp_yields (v := .pointer (some ⟨sb, so + i * 4 + 2, none⟩)) ?_ ⟨_, rfl, rfl, newer_refl _, hG, fun _ h => h⟩
            simp [slotOf] at h35
            simp [execOp, go_sem, h35]
          · intro a W hG hG1 hO hp
            have h36 : slotOf a 36 = .pointer (some ⟨sb, so + i * 4 + 2, none⟩) := hp.1
            have c0 := hG.cell p2 HSN.out
            have c1 := hG.cell p3 HSN.out
            refine wp_yields (v := rgV p.y) ?_ ⟨_, rfl, rfl, newer_refl _, hG, fun _ h => h⟩
            simp [slotOf] at h36
            simp [execOp, go_sem, h36, c0, c1]
          · intro a W hG hG1 hO hp
            have h37 : slotOf a 37 = rgV p.y := hp.1
            refine wp_enters (f := 38) (args := #[rgV p.y]) ?_ ((to_any p.y W).mono ?_)
            · simp [slotOf] at h37
              simp [go_sem, h37]
            · rintro e w' ⟨rfl, hb⟩
              exact ⟨_, rfl, _, rfl, rfl, hb, grown_below hG hb, fun _ h => ⟨own_below h.1 hb, newer_trans h.2 hb⟩⟩
          · intro a W hG hG1 hO hp
            have h31 : slotOf a 31 = rgV p.x := hp.1
            have h38 : slotOf a 38 = rgV p.y := hp.2.1
            refine wp_yields (v := spV p) ?_ ⟨_, rfl, rfl, newer_refl _, hG, fun _ h => h⟩
            simp [slotOf] at h31 h38
            simp [execOp, go_sem, h31, h38]
          · intro a W hG hG1 hO hp
            have h39 : slotOf a 39 = spV p := hp.1
            refine wp_makes (v := .slice (some ⟨W.heap.size, 0, none⟩) 1 1) (W' := W.alloc (.cells #[vi p.x.lo, vi p.x.hi, vi p.y.lo, vi p.y.hi] 56)) ?_ ⟨_, rfl, ⟨_, rfl, hG.size, Whole.made _ _ _⟩, newer_allocH _ _, grown_alloc hG _, fun _ h => ⟨own_below h.1 (newer_allocH _ _), newer_trans h.2 (newer_allocH _ _)⟩⟩
            simp [slotOf] at h39
            simp [execOp, go_sem, h39]
          · intro a W hG hG1 hO hp
            have h24 : slotOf a 24 = .slice A i c := hp.1
            have h40 := hp.2.1
            obtain ⟨nb, h40, hnb, hW⟩ := h40
            obtain ⟨ho, hnw⟩ := hG1 rfl
            obtain ⟨hi0, hz0, hz1, hz2⟩ := HI.out
            refine wp_append_all (enc := spL) (size := 4) (w.heap.size) (.tmp 24) (.tmp 40) 37 56 i0 (.agg #[vi 0, vi 0, vi 0, vi 0]) 32 Try.underlying37 hi0 hz0 hz1 hz2 rfl (by omega) (fun _ => rfl) spL_one rfl A i c ((y.s.spots.take i).flatMap spL) ((eval_slot a 24).trans h24) ho [p] (some ⟨nb, 0, none⟩) 1 ((eval_slot a 40).trans h40) (row_of_whole (enc := spL) (s := 4) (fun _ => rfl) hW rfl) (by have := HFEW.out; unfold maxLen; simp only [List.length_singleton]; omega) (by have := HFEW.out; simp only [List.length_singleton]; omega) (Nat.le_trans HSZ.out hG.size) ?_
            intro B c' w1 hown hgr hat
            exact ⟨_, rfl, ⟨B, c', rfl, hown⟩, hgr, grown_trans' hG hgr, fun e => absurd rfl e⟩
          · intro a W hG hG1 hO hp
            have h3 := hO.slot 3 (by kernel_rfl)
            refine wp_yields (v := .pointer (some ⟨ob, 0, none⟩)) ?_ ⟨_, rfl, rfl, newer_refl _, hG, fun _ h => h⟩
            simp [slotOf] at h3
            simp [execOp, go_sem, h3]
        · intro w5 hG
          rintro _ rfl _ rfl _ rfl _ rfl _ rfl _ rfl _ rfl _ rfl _ rfl _ rfl _ rfl _ rfl _ rfl _ rfl _ rfl _ rfl _ rfl _ hv40 _ ⟨B2, c2, rfl, hown⟩ _ rfl
          change wpList _ _ _ _ _ _
          simp only [Act.put, List.setIfInBounds_toArray, List.set_cons_zero, List.set_cons_succ, List.drop_succ_cons, List.drop_zero]
          have HE := Lib.hid (HJ.out.add hG HP.out hown)
          have oz5 := HJ.out.oz.grown hG HZN.out
          have y0 := oz5.at 0 (v := .slice A i c) rfl
          have yf := oz5.free 0
          clear oz5 hG hown x0 z0 p0 p1 p2 p3 hv40
          have hfew := HFEW.out
          go_wp2_with fail
          refine ⟨⟨i + 1, B2, c2, by omega, rfl, HE.out⟩, ?_⟩
          simp [intOf]
          omega
      case neg =>
        obtain rfl : i = y.s.spots.length := by omega
        have hge : ¬ (y.s.spots.length : Int) < y.s.spots.length := by omega
        have z0 := hj.oz.at 0 (v := .slice A y.s.spots.length c) rfl
        have z1 := hj.oz.at 1 (v := vi y.s.strain) rfl
        have z2 := hj.oz.at 2 (v := .slice T y.s.tools.length tc) rfl
        have z3 := hj.oz.at 3 (v := vi y.s.day) rfl
        have z4 := hj.oz.at 4 (v := .slice R y.s.reads.length rc) rfl
        have b0 := hj.b1.at 0 rfl
        have f0 := hj.b1.free 0
        have b1 := hj.b1.at 1 rfl
        have f1 := hj.b1.free 1
        have b2 := hj.b1.at 2 rfl
        have f2 := hj.b1.free 2
        have b3 := hj.b1.at 3 rfl
        have f3 := hj.b1.free 3
        have b4 := hj.b1.at 4 rfl
        have f4 := hj.b1.free 4
        clear hj
        go_wp2_with fail
        have hw := (((((HJ.out.b1).set 0 (.slice A y.s.spots.length c)).set 1 (vi y.s.strain)).set 2 (.slice T y.s.tools.length tc)).set 3 (vi y.s.day)).set 4 (.slice R y.s.reads.length rc)
        have k0 := hw.at 0 (v := .slice A y.s.spots.length c) rfl
        have k1 := hw.at 1 (v := vi y.s.strain) rfl
        have k2 := hw.at 2 (v := .slice T y.s.tools.length tc) rfl
        have k3 := hw.at 3 (v := vi y.s.day) rfl
        have k4 := hw.at 4 (v := .slice R y.s.reads.length rc) rfl
        have hn : newer w ((((((wr).setCell ⟨w.heap.size + 1, 0, none⟩ (.slice A y.s.spots.length c)).setCell ⟨w.heap.size + 1, 1, none⟩ (vi y.s.strain)).setCell ⟨w.heap.size + 1, 2, none⟩ (.slice T y.s.tools.length tc)).setCell ⟨w.heap.size + 1, 3, none⟩ (vi y.s.day)).setCell ⟨w.heap.size + 1, 4, none⟩ (.slice R y.s.reads.length rc)) := (((((HJ.out.nw).setCell (p := ⟨w.heap.size + 1, 0, none⟩) (by dsimp only; omega) (.slice A y.s.spots.length c)).setCell (p := ⟨w.heap.size + 1, 1, none⟩) (by dsimp only; omega) (vi y.s.strain)).setCell (p := ⟨w.heap.size + 1, 2, none⟩) (by dsimp only; omega) (.slice T y.s.tools.length tc)).setCell (p := ⟨w.heap.size + 1, 3, none⟩) (by dsimp only; omega) (vi y.s.day)).setCell (p := ⟨w.heap.size + 1, 4, none⟩) (by dsimp only; omega) (.slice R y.s.reads.length rc)
        have hrow : ∀ {e : TypeId} {s n : Nat} {v : Value} {ys : List Value}, wr.ownsRow w.heap.size e s v n ys → e ≠ 40 → ((((((wr).setCell ⟨w.heap.size + 1, 0, none⟩ (.slice A y.s.spots.length c)).setCell ⟨w.heap.size + 1, 1, none⟩ (vi y.s.strain)).setCell ⟨w.heap.size + 1, 2, none⟩ (.slice T y.s.tools.length tc)).setCell ⟨w.heap.size + 1, 3, none⟩ (vi y.s.day)).setCell ⟨w.heap.size + 1, 4, none⟩ (.slice R y.s.reads.length rc)).ownsRow w.heap.size e s v n ys := fun ho hne => own_put5 HJ.out.b1 ho hne _ _ _ _ _
        have HEND := Lib.hid (show SvOwn ⟨y.s, A, c, T, tc, R, rc⟩ w.heap.size ((((((wr).setCell ⟨w.heap.size + 1, 0, none⟩ (.slice A y.s.spots.length c)).setCell ⟨w.heap.size + 1, 1, none⟩ (vi y.s.strain)).setCell ⟨w.heap.size + 1, 2, none⟩ (.slice T y.s.tools.length tc)).setCell ⟨w.heap.size + 1, 3, none⟩ (vi y.s.day)).setCell ⟨w.heap.size + 1, 4, none⟩ (.slice R y.s.reads.length rc)) from ⟨by have h := hrow HJ.out.sp (by decide); rw [List.take_length] at h; exact h, hrow HJ.out.tl (by decide), hrow HJ.out.rd (by decide)⟩)
        exact bodyPost_ret (v := .agg #[.slice A y.s.spots.length c, vi y.s.strain, .slice T y.s.tools.length tc, vi y.s.day, .slice R y.s.reads.length rc]) (by simp [results, Try.results21, go_sem, k0, k1, k2, k3, k4]) rfl ⟨⟨y.s, A, c, T, tc, R, rc⟩, rfl, rfl, HEND.out, hn⟩

end Go.Proofs.Ytpmafnifgegfbaa
