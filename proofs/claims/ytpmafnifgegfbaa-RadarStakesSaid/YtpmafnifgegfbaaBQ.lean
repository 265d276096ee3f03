/- A list put into sorted lists, by the reference. -/
import Derived.Test.YtpmafnifgegfbaaAN
import Derived.Test.YtpmafnifgegfbaaAG
namespace Go.Proofs.Ytpmafnifgegfbaa
open Go.RowKit Go.Shelf Go.Deep

theorem info_intsN : (Try.prog.info? 24).map (fun i => (i.zero, i.size, i.bytes)) = some (some (.slice none 0 0), 1, 24) := by kernel_rfl
theorem lnL_oneN (x : Ln) : ∀ u ∈ lnL x, u.oneCell' = true := by
  intro u hu
  obtain rfl := List.mem_singleton.1 hu
  rfl
theorem put_skip {x : List Int} {m : List (List Int)} : ∀ (l : List (List Int)), (∀ a ∈ l, lessB a x = true) → putL (l ++ m) x = l ++ putL m x
  | [], _ => rfl
  | a :: l, h => by
    rw [List.cons_append, putL, if_pos (h a (List.mem_cons_self ..)), put_skip l fun b hb => h b (List.mem_cons_of_mem _ hb)]
    rfl
/-- Where the loop of Put stands. -/
def PutI (L : List (List Int)) (x : List Int) (k : Nat) (f : Bool) (o : List (List Int)) : Prop := if f then o ++ L.drop k = putL L x else o = L.take k ∧ ∀ a ∈ L.take k, lessB a x = true
section
variable {L : List (List Int)} {x : List Int} {k : Nat} {o : List (List Int)} {a : List Int}
theorem put_less (h : PutI L x k false o) (ha : L[k]? = some a) (hl : lessB a x = true) : PutI L x (k + 1) false (o ++ [a]) := by
  obtain ⟨h1, h2⟩ := h
  refine ⟨by rw [List.take_add_one, ha, h1]; rfl, fun b hb => ?_⟩
  rw [List.take_add_one, ha] at hb
  rcases List.mem_append.1 hb with hb | hb
  · exact h2 b hb
  · have e : b = a := by simpa using hb
    rw [e]
    exact hl
theorem drop_at (ha : L[k]? = some a) : L.drop k = a :: L.drop (k + 1) := by
  obtain ⟨hk, h⟩ := List.getElem?_eq_some_iff.1 ha
  rw [List.drop_eq_getElem_cons hk, h]
theorem put_more (h : PutI L x k true o) (ha : L[k]? = some a) : PutI L x (k + 1) true (o ++ [a]) := by
  have h1 : o ++ L.drop k = putL L x := h
  show (o ++ [a]) ++ L.drop (k + 1) = putL L x
  rw [← h1, drop_at ha, List.append_assoc]
  rfl
theorem put_at (h : PutI L x k false o) : putL L x = o ++ putL (L.drop k) x := by
  obtain ⟨h1, h2⟩ := h
  rw [h1, ← put_skip _ h2, List.take_append_drop]
theorem put_same (h : PutI L x k false o) (ha : L[k]? = some a) (hl : lessB a x = false) (he : a = x) : PutI L x (k + 1) true (o ++ [x]) := by
  show (o ++ [x]) ++ L.drop (k + 1) = putL L x
  rw [put_at h, drop_at ha, putL, if_neg (by rw [hl]; decide), if_neg (by rw [← he]; intro e; rw [he] at e; exact less_irrefl _ (lessB_iff.1 e)), List.append_assoc]
  rfl
theorem put_new (h : PutI L x k false o) (ha : L[k]? = some a) (hl : lessB a x = false) (he : a ≠ x) (hlen : a.length = x.length) : PutI L x (k + 1) true (o ++ [x] ++ [a]) := by
  show (o ++ [x] ++ [a]) ++ L.drop (k + 1) = putL L x
  have hx : lessB x a = true := by
    rcases less_or a x hlen with h1 | h1 | h1
    · rw [lessB_iff.2 h1] at hl; cases hl
    · exact absurd h1 he
    · exact lessB_iff.2 h1
  rw [put_at h, drop_at ha, putL, if_neg (by rw [hl]; decide), if_pos hx, List.append_assoc, List.append_assoc]
  rfl
end
theorem rows_snoc {us ls : List Ln} {x e : Ln} (h : ∀ u ∈ us, u ∈ ls ∨ u = x) (he : e ∈ ls ∨ e = x) : ∀ u ∈ us ++ [e], u ∈ ls ∨ u = x := fun u hu => by
  rcases List.mem_append.1 hu with hu | hu
  · exact h u hu
  · obtain rfl := List.mem_singleton.1 hu
    exact he
set_option maxRecDepth 100000 in
set_option maxHeartbeats 4000000 in
theorem put_any (ls : List Ln) (x : Ln) (A : Option Addr) (c : Nat) (w : World) (hr : LlOk ls A w) (hx : Row intL 1 w w.heap.size x.a x.l) (hxl : x.l.length ≤ 1000) (hl : ∀ u ∈ ls, u.l.length = x.l.length) (hn : ls.length ≤ 1000000000000) (hne : ls ≠ []) : Calls Try.prog 71 #[.slice A ls.length c, .slice x.a x.l.length x.c] w fun e w' => ∃ (us : List Ln) (B : Option Addr) (d : Nat), e = .returned (.slice B us.length d) ∧ us.map (·.l) = putL (ls.map (·.l)) x.l ∧ (∀ u ∈ us, u ∈ ls ∨ u = x) ∧ w'.ownsRow w.heap.size 24 1 (.slice B us.length d) us.length (us.flatMap lnL) ∧ newer w w' := by
  obtain ⟨ab, ao, rfl, -, hcell⟩ := hr.row hne
  have HC : Hid (∀ (k : Nat) (u : Ln), ls[k]? = some u → w.cell? ⟨ab, ao + k, none⟩ = some (.slice u.a u.l.length u.c)) := Lib.hid (fun k u hk => by
    have h := hcell k u hk 0 _ rfl
    rw [Nat.mul_one, Nat.add_zero] at h
    exact h)
  have HR := Lib.hid hr
  have HX := Lib.hid (And.intro hx hxl)
  have HL := Lib.hid (fun (k : Nat) (u : Ln) (hk : ls[k]? = some u) => hl u (List.mem_of_getElem? hk))
  obtain ⟨L, hL⟩ : ∃ L, L = ls.map (·.l) := ⟨_, rfl⟩
  rw [← hL]
  have HLL : Hid (∀ (k : Nat) (u : Ln), ls[k]? = some u → L[k]? = some u.l) := Lib.hid (fun k u hk => by rw [hL, List.getElem?_map, hk]; rfl)
  have HLN : Hid (L.length = ls.length) := Lib.hid (by rw [hL, List.length_map])
  obtain ⟨i0, hi0, hz0, hz1, hz2⟩ := info_parts info_intsN
  have HI := Lib.hid (And.intro hi0 (And.intro hz0 (And.intro hz1 hz2)))
  clear hr hx hxl hl hne hcell hL hi0 hz0 hz1 hz2
  obtain ⟨n, hnn⟩ : ∃ n, n = ls.length := ⟨_, rfl⟩
  rw [← hnn] at hn HLN ⊢
  have HN := Lib.hid hnn
  clear hnn
  go_enter Try.func71, Try.ntmps71
  go_wp2_with fail
  try go_frame
  go_loopw [5, 6, 7] (fun s5 s6 s7 wr => ∃ (k : Nat) (f : Bool) (us : List Ln) (B : Option Addr) (d : Nat), k ≤ n ∧ s5 = .slice B us.length d ∧ s6 = .bool f ∧ s7 = vi k ∧ us.length ≤ k + 1 ∧ wr.ownsRow w.heap.size 24 1 (.slice B us.length d) us.length (us.flatMap lnL) ∧ (∀ u ∈ us, u ∈ ls ∨ u = x) ∧ PutI L x.l k f (us.map (·.l)) ∧ newer w wr) (fun _ _ s7 _ => n - (intOf s7).toNat)
  case atStart => exact ⟨0, false, [], none, 0, Nat.zero_le _, rfl, rfl, rfl, by simp, ⟨rfl, .inl ⟨rfl, rfl⟩⟩, fun u hu => by simp at hu, ⟨rfl, fun a ha => by simp at ha⟩, newer_refl _⟩
  case round =>
    obtain ⟨k, f, us, B, d, hk, rfl, rfl, rfl, huk, hown, hmem, hpi, hnw⟩ := hrel
    have HJ := Lib.hid (And.intro hown (And.intro hmem (And.intro hpi hnw)))
    have HUS := Lib.hid (show us.length ≤ 1000000000001 by omega)
    clear hown hmem hpi
    by_cases hlt : k < n
    · have hlti : (k : Int) < n := by omega
      obtain ⟨u, hu⟩ : ∃ u, ls[k]? = some u := ⟨_, List.getElem?_eq_getElem (by rw [← HN.out]; exact hlt)⟩
      have cu := keep_cell (HC.out k u hu) hnw
      have HCU := Lib.hid (HC.out k u hu)
      have HU := Lib.hid (And.intro (HLL.out k u hu) (And.intro (Or.inl (b := u = x) (List.mem_of_getElem? hu)) (HL.out k u hu)))
      have HRU : Hid (∀ W, newer w W → Row intL 1 W W.heap.size u.a u.l ∧ Row intL 1 W W.heap.size x.a x.l) := Lib.hid (fun W hW => ⟨(((HR.out.inn u (List.mem_of_getElem? hu)).below hW).more hW.size), (HX.out.1.below hW).more hW.size⟩)
      have HU3 := Lib.hid (show u.l.length ≤ 1000 by rw [HU.out.2.2]; exact HX.out.2)
      clear hu hnw
      cases f with
      | true =>
        have hna1 := newer_allocH wr (.cells #[.slice u.a u.l.length u.c] 24)
        have HAP1 := Lib.hid (And.intro (own_below (HJ.out.1) hna1) (And.intro (row_of_whole (enc := lnL) (s := 1) (fun _ => rfl) (l := [u]) (Whole.made wr 24 #[.slice u.a u.l.length u.c]) rfl) (newer_trans (HJ.out.2.2.2) hna1)))
        clear hna1
        go_wp2_with (at_builtin; go_loud ((refine wpList_plain rfl fun _ hK => wp_append_all (enc := lnL) (size := 1) w.heap.size (.tmp 35) (.tmp 40) 33 24 i0 (.slice none 0 0) 24 Try.underlying33 HI.out.1 HI.out.2.1 HI.out.2.2.1 HI.out.2.2.2 rfl (by omega) (fun _ => rfl) lnL_oneN rfl B us.length d (us.flatMap lnL) rfl HAP1.out.1 [u] (some ⟨wr.heap.size, 0, none⟩) 1 rfl HAP1.out.2.1 (by have := HUS.out; unfold maxLen; simp only [List.length_singleton]; omega) (by have := HUS.out; simp only [List.length_singleton]; omega) HAP1.out.2.2.size fun B2 d2 w5 hown hgr hat => hK _ _ ?_); have HE1 := Lib.hid (And.intro hown (below_row HAP1.out.2.2 HAP1.out.1 hgr (Nat.le_refl _))); clear hown hgr hat))
        go_roundw
        case rel => exact ⟨k + 1, true, us ++ [u], B2, d2, by omega, by rw [List.length_append]; rfl, rfl, by go_num, by rw [List.length_append, List.length_singleton]; omega, by rw [List.length_append, List.flatMap_append]; exact HE1.out.1, rows_snoc HJ.out.2.1 HU.out.2.1, by rw [List.map_append]; exact put_more HJ.out.2.2.1 HU.out.1, HE1.out.2⟩
        case measure => simp [intOf]; omega
      | false =>
        have HLS := Lib.hid (less_any u.l x.l u.a x.a u.c x.c wr HU.out.2.2 HU3.out (HRU.out wr HJ.out.2.2.2).1 (HRU.out wr HJ.out.2.2.2).2)
        go_wp2_with fail
        refine (HLS.out).mono ?_
        rintro e w4 ⟨rfl, hb⟩
        have cu := keep_cell cu hb
        have HN4 := Lib.hid (And.intro (own_below HJ.out.1 hb) (newer_trans HJ.out.2.2.2 hb))
        clear hb HLS
        cases hls : lessB u.l x.l with
        | true =>
          have hna1 := newer_allocH w4 (.cells #[.slice u.a u.l.length u.c] 24)
          have HAP1 := Lib.hid (And.intro (own_below (HN4.out.1) hna1) (And.intro (row_of_whole (enc := lnL) (s := 1) (fun _ => rfl) (l := [u]) (Whole.made w4 24 #[.slice u.a u.l.length u.c]) rfl) (newer_trans (HN4.out.2) hna1)))
          clear hna1
          go_wp2_with (at_builtin; go_loud ((refine wpList_plain rfl fun _ hK => wp_append_all (enc := lnL) (size := 1) w.heap.size (.tmp 35) (.tmp 40) 33 24 i0 (.slice none 0 0) 24 Try.underlying33 HI.out.1 HI.out.2.1 HI.out.2.2.1 HI.out.2.2.2 rfl (by omega) (fun _ => rfl) lnL_oneN rfl B us.length d (us.flatMap lnL) rfl HAP1.out.1 [u] (some ⟨w4.heap.size, 0, none⟩) 1 rfl HAP1.out.2.1 (by have := HUS.out; unfold maxLen; simp only [List.length_singleton]; omega) (by have := HUS.out; simp only [List.length_singleton]; omega) HAP1.out.2.2.size fun B2 d2 w5 hown hgr hat => hK _ _ ?_); have HE1 := Lib.hid (And.intro hown (below_row HAP1.out.2.2 HAP1.out.1 hgr (Nat.le_refl _))); clear hown hgr hat))
          go_roundw
          case rel => exact ⟨k + 1, false, us ++ [u], B2, d2, by omega, by rw [List.length_append]; rfl, rfl, by go_num, by rw [List.length_append, List.length_singleton]; omega, by rw [List.length_append, List.flatMap_append]; exact HE1.out.1, rows_snoc HJ.out.2.1 HU.out.2.1, by rw [List.map_append]; exact put_less HJ.out.2.2.1 HU.out.1 hls, HE1.out.2⟩
          case measure => simp [intOf]; omega
        | false =>
          have hna1 := newer_allocH w4 (.cells #[.slice x.a x.l.length x.c] 24)
          have HAP1 := Lib.hid (And.intro (own_below (HN4.out.1) hna1) (And.intro (row_of_whole (enc := lnL) (s := 1) (fun _ => rfl) (l := [x]) (Whole.made w4 24 #[.slice x.a x.l.length x.c]) rfl) (newer_trans (HN4.out.2) hna1)))
          clear hna1
          go_wp2_with (at_builtin; go_loud ((refine wpList_plain rfl fun _ hK => wp_append_all (enc := lnL) (size := 1) w.heap.size (.tmp 25) (.tmp 27) 33 24 i0 (.slice none 0 0) 24 Try.underlying33 HI.out.1 HI.out.2.1 HI.out.2.2.1 HI.out.2.2.2 rfl (by omega) (fun _ => rfl) lnL_oneN rfl B us.length d (us.flatMap lnL) rfl HAP1.out.1 [x] (some ⟨w4.heap.size, 0, none⟩) 1 rfl HAP1.out.2.1 (by have := HUS.out; unfold maxLen; simp only [List.length_singleton]; omega) (by have := HUS.out; simp only [List.length_singleton]; omega) HAP1.out.2.2.size fun B2 d2 w5 hown hgr hat => hK _ _ ?_); have HE1 := Lib.hid (And.intro hown (below_row HAP1.out.2.2 HAP1.out.1 hgr (Nat.le_refl _))); clear cu; have cu := keep_cell HCU.out HE1.out.2; clear hown hgr hat))
          have HSM := Lib.hid (same_any u.l x.l u.a x.a u.c x.c w5 HU.out.2.2 HU3.out (HRU.out w5 HE1.out.2).1 (HRU.out w5 HE1.out.2).2)
          obtain ⟨sm, hsm⟩ : ∃ b, b = decide (u.l = x.l) := ⟨_, rfl⟩
          rw [← hsm] at HSM
          have HSS := Lib.hid hsm
          clear hsm
          refine (HSM.out).mono ?_
          rintro e w6 ⟨rfl, hb⟩
          clear cu
          have cu := keep_cell HCU.out (newer_trans HE1.out.2 hb)
          have HN6 := Lib.hid (And.intro (own_below HE1.out.1 hb) (newer_trans HE1.out.2 hb))
          clear hb HSM
          cases sm with
          | true =>
            have HE0 := Lib.hid (show u.l = x.l from of_decide_eq_true HSS.out.symm)
            clear HSS
            go_wp2_with fail
            go_roundw
            case rel => exact ⟨k + 1, true, us ++ [x], B2, d2, by omega, by rw [List.length_append]; rfl, rfl, by go_num, by rw [List.length_append, List.length_singleton]; omega, by rw [List.length_append, List.flatMap_append]; exact HN6.out.1, rows_snoc HJ.out.2.1 (.inr rfl), by rw [List.map_append]; exact put_same HJ.out.2.2.1 HU.out.1 hls HE0.out, HN6.out.2⟩
            case measure => simp [intOf]; omega
          | false =>
            have HE0 := Lib.hid (show u.l ≠ x.l from of_decide_eq_false HSS.out.symm)
            clear HSS
            have HUK := Lib.hid (show us.length ≤ k by have h := congrArg List.length HJ.out.2.2.1.1; rw [List.length_map, List.length_take] at h; omega)
            have hna2 := newer_allocH w6 (.cells #[.slice u.a u.l.length u.c] 24)
            have HAP2 := Lib.hid (And.intro (own_below (HN6.out.1) hna2) (And.intro (row_of_whole (enc := lnL) (s := 1) (fun _ => rfl) (l := [u]) (Whole.made w6 24 #[.slice u.a u.l.length u.c]) rfl) (newer_trans (HN6.out.2) hna2)))
            clear hna2
            go_wp2_with (at_builtin; go_loud ((refine wpList_plain rfl fun _ hK => wp_append_all (enc := lnL) (size := 1) w.heap.size (.tmp 35) (.tmp 40) 33 24 i0 (.slice none 0 0) 24 Try.underlying33 HI.out.1 HI.out.2.1 HI.out.2.2.1 HI.out.2.2.2 rfl (by omega) (fun _ => rfl) lnL_oneN rfl B2 (us.length + 1) d2 (us.flatMap lnL ++ [x].flatMap lnL) rfl HAP2.out.1 [u] (some ⟨w6.heap.size, 0, none⟩) 1 rfl HAP2.out.2.1 (by have := HUS.out; unfold maxLen; simp only [List.length_singleton]; omega) (by have := HUS.out; simp only [List.length_singleton]; omega) HAP2.out.2.2.size fun B3 d3 w7 hown hgr hat => hK _ _ ?_); have HE2 := Lib.hid (And.intro hown (below_row HAP2.out.2.2 HAP2.out.1 hgr (Nat.le_refl _))); clear hown hgr hat))
            go_roundw
            case rel => exact ⟨k + 1, true, us ++ [x] ++ [u], B3, d3, by omega, by rw [List.length_append, List.length_append]; rfl, rfl, by go_num, by rw [List.length_append, List.length_append, List.length_singleton, List.length_singleton]; have := HUK.out; omega, by rw [List.length_append, List.length_append, List.flatMap_append, List.flatMap_append]; exact HE2.out.1, rows_snoc (rows_snoc HJ.out.2.1 (.inr rfl)) HU.out.2.1, by rw [List.map_append, List.map_append]; exact put_new HJ.out.2.2.1 HU.out.1 hls HE0.out HU.out.2.2, HE2.out.2⟩
            case measure => simp [intOf]; omega
    · obtain rfl : k = n := by omega
      have hlti : ¬ (k : Int) < k := by omega
      cases f with
      | true =>
        clear hnw
        go_wp2_with fail
        go_ret
        refine ⟨us, B, d, rfl, ?_, HJ.out.2.1, HJ.out.1, HJ.out.2.2.2⟩
        have h : us.map (·.l) ++ L.drop k = putL L x.l := HJ.out.2.2.1
        rw [List.drop_eq_nil_of_le (by rw [HLN.out]; exact Nat.le_refl _), List.append_nil] at h
        exact h
      | false =>
        have hna1 := newer_allocH wr (.cells #[.slice x.a x.l.length x.c] 24)
        have HAP1 := Lib.hid (And.intro (own_below (HJ.out.1) hna1) (And.intro (row_of_whole (enc := lnL) (s := 1) (fun _ => rfl) (l := [x]) (Whole.made wr 24 #[.slice x.a x.l.length x.c]) rfl) (newer_trans (HJ.out.2.2.2) hna1)))
        clear hna1
        go_wp2_with (at_builtin; go_loud ((refine wpList_plain rfl fun _ hK => wp_append_all (enc := lnL) (size := 1) w.heap.size (.tmp 44) (.tmp 46) 33 24 i0 (.slice none 0 0) 24 Try.underlying33 HI.out.1 HI.out.2.1 HI.out.2.2.1 HI.out.2.2.2 rfl (by omega) (fun _ => rfl) lnL_oneN rfl B us.length d (us.flatMap lnL) rfl HAP1.out.1 [x] (some ⟨wr.heap.size, 0, none⟩) 1 rfl HAP1.out.2.1 (by have := HUS.out; unfold maxLen; simp only [List.length_singleton]; omega) (by have := HUS.out; simp only [List.length_singleton]; omega) HAP1.out.2.2.size fun B2 d2 w5 hown hgr hat => hK _ _ ?_); have HE1 := Lib.hid (And.intro hown (below_row HAP1.out.2.2 HAP1.out.1 hgr (Nat.le_refl _))); clear hown hgr hat))
        go_ret
        refine ⟨us ++ [x], B2, d2, by rw [List.length_append]; rfl, ?_, rows_snoc HJ.out.2.1 (.inr rfl), by rw [List.length_append, List.flatMap_append]; exact HE1.out.1, HE1.out.2⟩
        rw [List.map_append, put_at HJ.out.2.2.1, List.drop_eq_nil_of_le (by rw [HLN.out]; exact Nat.le_refl _)]
        rfl
set_option maxRecDepth 100000 in
set_option maxHeartbeats 4000000 in
theorem put_nil (x : Ln) (A : Option Addr) (c : Nat) (w : World) : Calls Try.prog 71 #[.slice A 0 c, .slice x.a x.l.length x.c] w fun e w' => ∃ (us : List Ln) (B : Option Addr) (d : Nat), e = .returned (.slice B us.length d) ∧ us.map (·.l) = [x.l] ∧ (∀ u ∈ us, u = x) ∧ w'.ownsRow w.heap.size 24 1 (.slice B us.length d) us.length (us.flatMap lnL) ∧ newer w w' := by
  obtain ⟨i0, hi0, hz0, hz1, hz2⟩ := info_parts info_intsN
  have HI := Lib.hid (And.intro hi0 (And.intro hz0 (And.intro hz1 hz2)))
  clear hi0 hz0 hz1 hz2
  obtain ⟨us, hus⟩ : ∃ us : List Ln, us = [] := ⟨_, rfl⟩
  have HUS := Lib.hid (show us.length ≤ 10 by rw [hus]; decide)
  have HUE := Lib.hid hus
  clear hus
  go_enter Try.func71, Try.ntmps71
  go_wp2_with fail
  try go_frame
  go_loopw [5, 6, 7] (fun s5 s6 s7 wr => s5 = .slice none 0 0 ∧ s6 = .bool false ∧ s7 = vi 0 ∧ newer w wr) (fun _ _ _ _ => 0)
  case atStart => exact ⟨rfl, rfl, rfl, newer_refl _⟩
  case round =>
    obtain ⟨rfl, rfl, rfl, hnw⟩ := hrel
    have HNW := Lib.hid hnw
    have HNO : Hid (wr.ownsRow w.heap.size 24 1 (.slice none 0 0) 0 []) := Lib.hid ⟨rfl, .inl ⟨rfl, rfl⟩⟩
    have hna1 := newer_allocH wr (.cells #[.slice x.a x.l.length x.c] 24)
    have HAP1 := Lib.hid (And.intro (own_below (HNO.out) hna1) (And.intro (row_of_whole (enc := lnL) (s := 1) (fun _ => rfl) (l := [x]) (Whole.made wr 24 #[.slice x.a x.l.length x.c]) rfl) (newer_trans (hnw) hna1)))
    clear hna1
    go_wp2_with (at_builtin; go_loud ((refine wpList_plain rfl fun _ hK => wp_append_all (enc := lnL) (size := 1) w.heap.size (.tmp 44) (.tmp 46) 33 24 i0 (.slice none 0 0) 24 Try.underlying33 HI.out.1 HI.out.2.1 HI.out.2.2.1 HI.out.2.2.2 rfl (by omega) (fun _ => rfl) lnL_oneN rfl none 0 0 [] rfl HAP1.out.1 [x] (some ⟨wr.heap.size, 0, none⟩) 1 rfl HAP1.out.2.1 (by have := HUS.out; unfold maxLen; simp only [List.length_singleton]; omega) (by have := HUS.out; simp only [List.length_singleton]; omega) HAP1.out.2.2.size fun B2 d2 w5 hown hgr hat => hK _ _ ?_); have HE1 := Lib.hid (And.intro hown (below_row HAP1.out.2.2 HAP1.out.1 hgr (Nat.le_refl _))); clear hown hgr hat))
    go_ret
    refine ⟨[x], B2, d2, rfl, rfl, fun u hu => List.mem_singleton.1 hu, HE1.out.1, HE1.out.2⟩

end Go.Proofs.Ytpmafnifgegfbaa
