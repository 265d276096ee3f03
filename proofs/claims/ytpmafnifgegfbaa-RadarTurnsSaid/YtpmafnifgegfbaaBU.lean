/- All whole turns of fields, by the reference. -/
import Derived.Test.YtpmafnifgegfbaaBT
namespace Go.Proofs.Ytpmafnifgegfbaa
open Go.RowKit Go.Shelf Go.Deep

theorem put_all (ls : List Ln) (x : Ln) (A : Option Addr) (c : Nat) (w : World) (hr : LlOk ls A w) (hx : Row intL 1 w w.heap.size x.a x.l) (hxl : x.l.length ≤ 1000) (hl : ∀ u ∈ ls, u.l.length = x.l.length) (hn : ls.length ≤ 1000000000000) : Calls Try.prog 71 #[.slice A ls.length c, .slice x.a x.l.length x.c] w fun e w' => ∃ (us : List Ln) (B : Option Addr) (d : Nat), e = .returned (.slice B us.length d) ∧ us.map (·.l) = putL (ls.map (·.l)) x.l ∧ LlOk us B w' ∧ newer w w' := by
  by_cases hne : ls = []
  · subst hne
    refine (put_nil x A c w).mono ?_
    rintro e w' ⟨us, B, d, rfl, h1, h2, h3, h4⟩
    exact ⟨us, B, d, rfl, h1, ⟨row_of_own (enc := lnL) (size := 1) (by decide) (fun _ => rfl) h3, fun u hu => by rw [h2 u hu]; exact (hx.below h4).more h4.size⟩, h4⟩
  · refine (put_any ls x A c w hr hx hxl hl hn hne).mono ?_
    rintro e w' ⟨us, B, d, rfl, h1, h2, h3, h4⟩
    refine ⟨us, B, d, rfl, h1, ⟨row_of_own (enc := lnL) (size := 1) (by decide) (fun _ => rfl) h3, fun u hu => ?_⟩, h4⟩
    rcases h2 u hu with h | rfl
    · exact ((hr.inn u h).below h4).more h4.size
    · exact (hx.below h4).more h4.size
/-- The lists put when so many of a field's are. -/
def tuL (s : Sd) (L : List (List Mv)) (i j : Nat) : List (List Int) := ((listsR s (L.getD i []) s.tools.length 0 []).take j).foldl putL (turnsR s (L.take i))
theorem tuL_zero (s : Sd) (L : List (List Mv)) (i : Nat) : tuL s L i 0 = turnsR s (L.take i) := rfl
theorem tuL_succ {s : Sd} {L : List (List Mv)} {i j : Nat} {x : List Int} (h : (listsR s (L.getD i []) s.tools.length 0 [])[j]? = some x) : tuL s L i (j + 1) = putL (tuL s L i j) x := by
  unfold tuL
  rw [List.take_add_one, h, List.foldl_append]
  rfl
theorem tuL_end {s : Sd} {L : List (List Mv)} {i : Nat} (hi : i < L.length) : tuL s L i (listsR s (L.getD i []) s.tools.length 0 []).length = turnsR s (L.take (i + 1)) := by
  unfold tuL
  rw [List.take_length]
  unfold turnsR
  rw [List.take_add_one, List.getElem?_eq_getElem hi, List.foldl_append]
  show _ = List.foldl putL _ (listsR s L[i] s.tools.length 0 [])
  rw [List.getD_eq_getElem?_getD, List.getElem?_eq_getElem hi]
  rfl
theorem tuL_ok (s : Sd) (L : List (List Mv)) (i j : Nat) : PutsOk (turnN s.tools) (tuL s L i j) := by
  have hall : ∀ (xs l : List (List Int)), (∀ x ∈ xs, x.length = turnN s.tools ∧ ∀ k ∈ x, k ∈ kAll) → PutsOk (turnN s.tools) l → PutsOk (turnN s.tools) (xs.foldl putL l) := by
    intro xs
    induction xs with
    | nil => exact fun l _ h => h
    | cons x xs ih => exact fun l hx h => ih _ (fun y hy => hx y (List.mem_cons_of_mem _ hy)) (h.put (hx x (List.mem_cons_self ..)).1 (hx x (List.mem_cons_self ..)).2)
  have hmem : ∀ (f : List Mv), ∀ x ∈ listsR s f s.tools.length 0 [], x.length = turnN s.tools ∧ ∀ k ∈ x, k ∈ kAll := fun f x hx => ⟨lists_len hx, lists_kAll _ _ _ (fun k hk => by simp at hk) x hx⟩
  have hf : ∀ (fs : List (List Mv)) (l : List (List Int)), PutsOk (turnN s.tools) l → PutsOk (turnN s.tools) (fs.foldl (fun l f => (listsR s f s.tools.length 0 []).foldl putL l) l) := by
    intro fs
    induction fs with
    | nil => exact fun l h => h
    | cons f fs ih => exact fun l h => ih _ (hall _ _ (hmem f) h)
  exact hall _ _ (fun x hx => hmem _ x (List.mem_of_mem_take hx)) (hf _ _ ⟨fun a ha => by simp at ha, fun a ha => by simp at ha, List.Pairwise.nil⟩)
theorem turnN_le (ts : List Tl) : turnN ts ≤ ts.length := List.length_filter_le _ _
set_option maxRecDepth 100000 in
set_option maxHeartbeats 8000000 in
theorem turnsR_any (y : Sm) (xs : List Fl) (A : Option Addr) (c B0 : Nat) (w : World) (hok : SmOk y w) (hs : SdOk y.s) (h3 : y.s.tools.length ≤ 3) (hr : Row flL 1 w w.heap.size A xs) (hin : FlIn B0 xs w) (hn : xs.length ≤ 5000000) (hfl : ∀ x ∈ xs, x.f.length = y.s.spots.length) (hbd : ∀ x ∈ xs, ∀ m ∈ x.f, (-30 ≤ m.1 ∧ m.1 ≤ 30) ∧ -30 ≤ m.2 ∧ m.2 ≤ 30) : Calls Try.prog 34 #[smV y, .slice A xs.length c] w fun e w' => ∃ (us : List Ln) (B : Option Addr) (d : Nat), e = .returned (.slice B us.length d) ∧ LlOk us B w' ∧ us.map (·.l) = turnsR y.s (xs.map (·.f)) ∧ newer w w' := by
  have HC : Hid (∀ (k : Nat) (x : Fl), xs[k]? = some x → ∃ ab ao, A = some ⟨ab, ao, none⟩ ∧ w.cell? ⟨ab, ao + k, none⟩ = some (.slice x.a x.f.length x.c)) := Lib.hid (fun k x hk => by
    obtain ⟨ab, ao, e, -, hcell⟩ := hr (fun e => by rw [e] at hk; simp at hk)
    have h := hcell k x hk 0 _ rfl
    rw [Nat.mul_one, Nat.add_zero] at h
    exact ⟨ab, ao, e, h⟩)
  have HLI0 : Hid (∀ (k : Nat) (x : Fl), xs[k]? = some x → ∀ W, newer w W → Calls Try.prog 70 #[smV y, .slice x.a x.f.length x.c, vi 0, .slice none 0 0] W fun e w' => (∃ (us : List Ln) (A : Option Addr) (c : Nat), e = .returned (.slice A us.length c) ∧ Row lnL 1 w' w'.heap.size A us ∧ LkIn W.heap.size us w' ∧ us.map (·.l) = listsR y.s x.f y.s.tools.length 0 []) ∧ newer W w') := Lib.hid (fun k x hk W hW => by
    have hm := List.mem_of_getElem? hk
    exact listsR_any y x.f hs h3 (hfl x hm) (hbd x hm) y.s.tools.length [] none 0 x.a x.c 0 W (hok.next hW) (((hin.ok x hm).below hW).more hW.size) (fun h => absurd rfl h) (by omega) (by simp))
  obtain ⟨L, hL⟩ : ∃ L, L = xs.map (·.f) := ⟨_, rfl⟩
  rw [← hL]
  have HLL : Hid (∀ (k : Nat) (x : Fl), xs[k]? = some x → L.getD k [] = x.f) := Lib.hid (fun k x hk => by rw [hL, List.getD_eq_getElem?_getD, List.getElem?_map, hk]; rfl)
  have HLN : Hid (L.length = xs.length) := Lib.hid (by rw [hL, List.length_map])
  have HT3 := Lib.hid h3
  have H3 := Lib.hid (Nat.le_trans (turnN_le y.s.tools) h3)
  have HN0 := Lib.hid (And.intro (newer_allocH w (.cells (smC y) 26)) (Whole.made w 26 (smC y)))
  obtain ⟨n, hnn⟩ : ∃ n, n = xs.length := ⟨_, rfl⟩
  rw [← hnn] at hn HLN ⊢
  have HNX := Lib.hid hnn
  clear hok hs h3 hr hin hfl hbd hL hnn
  go_enter Try.func34, Try.ntmps34
  go_wp2_with fail
  try go_frame
  go_loopw [5, 6] (fun s5 s6 wr => ∃ (i : Nat) (us : List Ln) (B : Option Addr) (d : Nat), i ≤ n ∧ s5 = .slice B us.length d ∧ s6 = vi i ∧ LlOk us B wr ∧ us.map (·.l) = turnsR y.s (L.take i) ∧ newer w wr ∧ Whole wr w.heap.size 26 (smC y)) (fun _ s6 _ => n - (intOf s6).toNat)
  case atStart => exact ⟨0, [], none, 0, Nat.zero_le _, rfl, rfl, ⟨fun h => absurd rfl h, fun x hx => by simp at hx⟩, rfl, HN0.out.1, HN0.out.2⟩
  case round =>
    obtain ⟨wo, rfl⟩ : ∃ v, v = wr := ⟨_, rfl⟩
    obtain ⟨i, us, B, d, hi, rfl, rfl, hll, hmap, hnw, hx⟩ := hrel
    have HJ := Lib.hid (And.intro hll (And.intro hmap (And.intro hnw hx)))
    clear hll hmap
    by_cases hlt : i < n
    · have hin : (i : Int) < n := by omega
      obtain ⟨xx, hxx⟩ : ∃ x, xs[i]? = some x := ⟨_, List.getElem?_eq_getElem (by rw [← HNX.out]; exact hlt)⟩
      obtain ⟨ab, ao, rfl, cx⟩ := HC.out i xx hxx
      have cx := keep_cell cx hnw
      have x0 := hx.at 0 (v := .slice y.sa y.s.spots.length y.sc) rfl
      have x1 := hx.at 1 (v := vi y.s.strain) rfl
      have x2 := hx.at 2 (v := .slice y.ta y.s.tools.length y.tc) rfl
      have x3 := hx.at 3 (v := vi y.s.day) rfl
      have x4 := hx.at 4 (v := .slice y.ra y.s.reads.length y.rc) rfl
      have HLI : Hid (∀ W, newer wo W → Calls Try.prog 70 #[smV y, .slice xx.a xx.f.length xx.c, vi 0, .slice none 0 0] W fun e w' => (∃ (us : List Ln) (A : Option Addr) (c : Nat), e = .returned (.slice A us.length c) ∧ Row lnL 1 w' w'.heap.size A us ∧ LkIn W.heap.size us w' ∧ us.map (·.l) = listsR y.s xx.f y.s.tools.length 0 []) ∧ newer W w') := Lib.hid (fun W hW => HLI0.out i xx hxx W (newer_trans HJ.out.2.2.1 hW))
      have HXF := Lib.hid (HLL.out i xx hxx)
      have HLT := Lib.hid hlt
      clear hxx hnw hx
      go_wp2_with fail
      go_upto_region 5 with fail
      refine wp_words (by kernel_rfl) (region_told 6 (by kernel_rfl) (by kernel_rfl) (fun W => Below wo.heap.size wo W) newer (pickD [vIs (smV y), vIs (.slice (some ⟨ab, ao, none⟩) n c), vIs (.int .i64 i), vIs (.pointer (some ⟨ab, ao + i, none⟩)), vIs (.slice xx.a xx.f.length xx.c), vLks wo.heap.size (listsR y.s xx.f y.s.tools.length 0 [])]) (fun h k => newer_trans h k) (pickD_stable _ ⟨vIs_st, vIs_st, vIs_st, vIs_st, vIs_st, vLks_st, trivial⟩) (Below.refl _ wo).drew (Below.refl _ _) ?_ ?_)
      · refine ⟨?_, ?_, ?_, ?_, ?_, ?_, trivial⟩
        · intro a W hG hR hO hp
          have h2 := hO.slot 2 (by kernel_rfl)
          have c0 := keep_cell x0 hG
          have c1 := keep_cell x1 hG
          have c2 := keep_cell x2 hG
          have c3 := keep_cell x3 hG
          have c4 := keep_cell x4 hG
          refine kY (v := smV y) hG rfl ?_
          simp [slotOf] at h2
          simp [execOp, go_sem, h2, c0, c1, c2, c3, c4]
        · exact fun a W hG _ hO _ => kM 1 rfl (hO.slot 1 (by kernel_rfl)) rfl hG
        · exact fun a W hG _ hO _ => kM 6 rfl (hO.slot 6 (by kernel_rfl)) rfl hG
        · intro a W hG hR hO hp
          have h16 : slotOf a 16 = .slice (some ⟨ab, ao, none⟩) n c := hp.1
          have h17 : slotOf a 17 = .int .i64 i := hp.2.1
          refine kY (v := .pointer (some ⟨ab, ao + i, none⟩)) hG rfl ?_
          simp [slotOf] at h16 h17
          simp [execOp, go_sem, h16, h17, hin]
        · intro a W hG hR hO hp
          have h18 : slotOf a 18 = .pointer (some ⟨ab, ao + i, none⟩) := hp.1
          have c0 := keep_cell cx hG
          refine kY (v := .slice xx.a xx.f.length xx.c) hG rfl ?_
          simp [slotOf] at h18
          simp [execOp, go_sem, h18, c0]
        · intro a W hG hR hO hp
          have h15 : slotOf a 15 = smV y := hp.1
          have h19 : slotOf a 19 = .slice xx.a xx.f.length xx.c := hp.2.1
          refine wp_enters (f := 70) (args := #[smV y, .slice xx.a xx.f.length xx.c, vi 0, .slice none 0 0]) ?_ ((HLI.out W hG).mono ?_)
          · simp [slotOf] at h15 h19
            simp [go_sem, h15, h19]
          · rintro e w' ⟨⟨vs, A3, c3, rfl, h1, h2, h4⟩, hb⟩
            exact ⟨_, rfl, _, rfl, ⟨vs, A3, c3, rfl, h1, h2.low hG.size, h4⟩, hb, below_next hG hb⟩
      · intro w5 hG hR
        rintro _ rfl _ rfl _ rfl _ rfl _ rfl _ ⟨ls, A2, c2, rfl, hrl, hli, hle⟩
        change wpList _ _ _ _ _ _
        simp only [Act.put, List.setIfInBounds_toArray, List.set_cons_zero, List.set_cons_succ, List.drop_succ_cons, List.drop_zero]
        have HL5 := Lib.hid (And.intro hrl hli)
        have HLE : Hid (listsR y.s (L.getD i []) y.s.tools.length 0 [] = ls.map (·.l)) := Lib.hid (by rw [HXF.out]; exact hle.symm)
        have HW5 := Lib.hid (And.intro (HJ.out.1.next hG) (And.intro HJ.out.2.1 (And.intro (newer_trans HJ.out.2.2.1 hG) (HJ.out.2.2.2.below hG HJ.out.2.2.2.lt))))
        have HLL5 : Hid (ls.length ≤ 27027009001) := Lib.hid (by
          have h1 := congrArg List.length hle
          rw [List.length_map] at h1
          rw [h1]
          exact Nat.le_trans (lists_few _ _ _) (Nat.le_trans (Nat.pow_le_pow_right (by decide) HT3.out) (by decide)))
        clear hrl hli hle hG cx x0 x1 x2 x3 x4 HLI HJ
        obtain ⟨m, hm⟩ : ∃ m, m = ls.length := ⟨_, rfl⟩
        rw [← hm] at HLL5 ⊢
        have HM := Lib.hid hm
        clear hm
        have hm27 := HLL5.out
        go_wp2_with fail
        try go_frame
        go_loopw [5, 8] (fun s5 s8 wr => ∃ (j : Nat) (us : List Ln) (B : Option Addr) (d : Nat), j ≤ m ∧ s5 = .slice B us.length d ∧ s8 = vi j ∧ LlOk us B wr ∧ us.map (·.l) = tuL y.s L i j ∧ newer w5 wr) (fun _ s8 _ => m - (intOf s8).toNat)
        case atStart => exact ⟨0, us, B, d, Nat.zero_le _, rfl, rfl, HW5.out.1, HW5.out.2.1, newer_refl _⟩
        case round =>
          obtain ⟨j, us, B, d, hj, rfl, rfl, hll, hmap, hn2⟩ := hrel
          have HK := Lib.hid (And.intro hll (And.intro hmap hn2))
          clear hll hmap
          by_cases hltj : j < m
          · have hjm : (j : Int) < m := by omega
            obtain ⟨u, hu⟩ : ∃ u, ls[j]? = some u := ⟨_, List.getElem?_eq_getElem (by rw [← HM.out]; exact hltj)⟩
            obtain ⟨lb, lo, rfl, -, cu⟩ := rowLn HL5.out.1 hu
            have cu := keep_cell cu hn2
            have HPU := Lib.hid (put_all us u B d wr HK.out.1 (((HL5.out.2.ok u (List.mem_of_getElem? hu)).below hn2).more hn2.size) (by
              have h1 : u.l ∈ listsR y.s (L.getD i []) y.s.tools.length 0 [] := by rw [HLE.out]; exact List.mem_map.2 ⟨u, List.mem_of_getElem? hu, rfl⟩
              rw [lists_len h1]
              have := H3.out
              omega) (fun v hv => by
              have h1 : u.l ∈ listsR y.s (L.getD i []) y.s.tools.length 0 [] := by rw [HLE.out]; exact List.mem_map.2 ⟨u, List.mem_of_getElem? hu, rfl⟩
              rw [lists_len h1]
              exact (tuL_ok y.s L i j).len _ (by rw [← HK.out.2.1]; exact List.mem_map.2 ⟨v, hv, rfl⟩)) (by
              have h1 := (tuL_ok y.s L i j).few H3.out
              rw [← HK.out.2.1, List.length_map] at h1
              omega))
            have HTS : Hid (tuL y.s L i (j + 1) = putL (tuL y.s L i j) u.l) := Lib.hid (tuL_succ (by rw [HLE.out, List.getElem?_map, hu]; rfl))
            clear hu hn2
            go_wp2_with fail
            refine (HPU.out).mono ?_
            rintro e w6 ⟨vs, B2, d2, rfl, h1, h2, hb⟩
            have HE := Lib.hid (And.intro h2 (And.intro (h1.trans (by rw [HK.out.2.1, ← HTS.out])) (newer_trans HK.out.2.2 hb)))
            clear h1 h2 hb cu HPU
            go_wp2_with fail
            go_roundw
            case rel => exact ⟨j + 1, vs, B2, d2, hltj, rfl, by go_num, HE.out.1, HE.out.2.1, HE.out.2.2⟩
            case measure => simp [intOf]; omega
          · obtain rfl : j = m := by omega
            have hjm : ¬ (j : Int) < j := by omega
            have HTE : Hid (tuL y.s L i j = turnsR y.s (L.take (i + 1))) := Lib.hid (by
              have h1 := congrArg List.length HLE.out
              rw [List.length_map, ← HM.out] at h1
              rw [← h1]
              exact tuL_end (by rw [HLN.out]; exact HLT.out))
            clear hn2
            go_wp2_with fail
            go_roundw
            case rel => exact ⟨i + 1, us, B, d, HLT.out, rfl, by go_num, HK.out.1, HK.out.2.1.trans HTE.out, newer_trans HW5.out.2.2.1 HK.out.2.2, HW5.out.2.2.2.below HK.out.2.2 HW5.out.2.2.2.lt⟩
            case measure => simp [intOf]; have := HLT.out; omega
    · obtain rfl : i = n := by omega
      have hin : ¬ (i : Int) < i := by omega
      clear hnw hx
      go_wp2_with fail
      go_ret
      have HQ := Lib.hid (And.intro HJ.out.1 (And.intro (show us.map (·.l) = turnsR y.s L by rw [HJ.out.2.1, List.take_of_length_le (by rw [HLN.out]; exact Nat.le_refl _)]) HJ.out.2.2.1))
      first | exact ⟨us, B, d, rfl, HQ.out.1, HQ.out.2.1, HQ.out.2.2⟩ | exact ⟨us, B, ⟨d, rfl⟩, HQ.out.1, HQ.out.2.1, HQ.out.2.2⟩

end Go.Proofs.Ytpmafnifgegfbaa
