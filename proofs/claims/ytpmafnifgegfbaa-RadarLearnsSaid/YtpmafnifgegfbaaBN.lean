/- What is known of spots, by the reference. -/
import Derived.Test.YtpmafnifgegfbaaBL
import Derived.Test.YtpmafnifgegfbaaAB
namespace Go.Proofs.Ytpmafnifgegfbaa
open Go.RowKit Go.Shelf Go.Deep

theorem info_rspotN : (Try.prog.info? 73).map (fun i => (i.zero, i.size, i.bytes)) = some (some (.agg #[vi 0, vi 0, vi 0, vi 0]), 4, 32) := by kernel_rfl
theorem box_next {l : List Mv} (h : l ≠ []) (m : Mv) : boxN (l ++ [m]) = joinP (boxN l) m := by
  cases l with
  | nil => exact absurd rfl h
  | cons a l => show (l ++ [m]).foldl joinP (ptP a) = _; rw [List.foldl_append]; rfl
/-- The box of the first k fields at spot i. -/
def bxN (L : List (List Mv)) (i k : Nat) : Sp := boxN ((L.take k).map fun f => fnL f i)
theorem bxN_succ {L : List (List Mv)} {i k : Nat} {f : List Mv} (hk : L[k]? = some f) (h0 : 0 < k) : bxN L i (k + 1) = joinP (bxN L i k) (fnL f i) := by
  unfold bxN
  rw [List.take_add_one, hk, List.map_append]
  exact box_next (fun e => by
    have h1 := congrArg List.length e
    have h2 := (List.getElem?_eq_some_iff.1 hk).1
    rw [List.length_map, List.length_take, List.length_nil] at h1
    omega) _
/-- What is known of the first spots. -/
def knB (L : List (List Mv)) (i : Nat) : List Sp := (List.range i).map fun q => boxN (L.map fun f => fnL f q)
theorem knB_succ (L : List (List Mv)) (i : Nat) : knB L (i + 1) = knB L i ++ [boxN (L.map fun f => fnL f i)] := by unfold knB; rw [List.range_succ, List.map_append]; rfl
theorem knB_is {s : Sd} (h : SdOk s) (hok : okS s (freeL s) = true) : knB (allR s) s.spots.length = knL s := by
  unfold knB knL knK
  refine List.map_congr_left fun i hi => ?_
  exact learn_box h hok (List.mem_range.1 hi)
set_option maxRecDepth 100000 in
set_option maxHeartbeats 4000000 in
theorem learnR_any (y : Sm) (xs : List Fl) (A : Option Addr) (c B0 : Nat) (w : World) (h6 : y.s.spots.length ≤ 6) (hr : Row flL 1 w w.heap.size A xs) (hin : FlIn B0 xs w) (hx : xs ≠ []) (hxn : xs.length ≤ 5000000) (hlen : ∀ x ∈ xs, x.f.length = y.s.spots.length) : Calls Try.prog 43 #[smV y, .slice A xs.length c] w fun e w' => ∃ B d, e = .returned (.slice B y.s.spots.length d) ∧ w'.ownsRow w.heap.size 73 4 (.slice B y.s.spots.length d) y.s.spots.length ((knB (xs.map (·.f)) y.s.spots.length).flatMap spL) ∧ newer w w' := by
  obtain ⟨ab, ao, rfl, -, hcell⟩ := hr hx
  obtain ⟨x0, hx0⟩ : ∃ x, xs[0]? = some x := ⟨_, List.getElem?_eq_getElem (List.length_pos_iff.2 hx)⟩
  have hpos : 0 < xs.length := List.length_pos_iff.2 hx
  have hposi : (0 : Int) < xs.length := by omega
  have hnw := newer_allocH w (.cells (smC y) 26)
  have HC : Hid (∀ (k : Nat) (x : Fl), xs[k]? = some x → w.cell? ⟨ab, ao + k, none⟩ = some (.slice x.a x.f.length x.c)) := Lib.hid (fun k x hk => by
    have h := hcell k x hk 0 _ rfl
    rw [Nat.mul_one, Nat.add_zero] at h
    exact h)
  have HC0 : Hid (w.cell? ⟨ab, ao, none⟩ = some (.slice x0.a x0.f.length x0.c)) := Lib.hid (by have h := HC.out 0 x0 hx0; rw [Nat.add_zero] at h; exact h)
  have HM : Hid (∀ (k i : Nat) (x : Fl), xs[k]? = some x → i < y.s.spots.length → ∃ b o, x.a = some ⟨b, o, none⟩ ∧ w.cell? ⟨b, o + i * 2, none⟩ = some (vi (fnL x.f i).1) ∧ w.cell? ⟨b, o + i * 2 + 1, none⟩ = some (vi (fnL x.f i).2)) := Lib.hid (fun k i x hk hi => by
    have hmem := List.mem_of_getElem? hk
    have hm : x.f[i]? = some (x.f[i]'(by rw [hlen x hmem]; exact hi)) := List.getElem?_eq_getElem _
    obtain ⟨b, o, e, -, h1, h2⟩ := row2 (hin.ok x hmem) hm
    rw [fnL_at hm]
    exact ⟨b, o, e, h1, h2⟩)
  have HL := Lib.hid (fun (k : Nat) (x : Fl) (hk : xs[k]? = some x) => hlen x (List.mem_of_getElem? hk))
  have HX0 := Lib.hid hx0
  obtain ⟨L, hL⟩ : ∃ L, L = xs.map (·.f) := ⟨_, rfl⟩
  rw [← hL]
  have HLL : Hid (∀ (k : Nat) (x : Fl), xs[k]? = some x → L[k]? = some x.f) := Lib.hid (fun k x hk => by rw [hL, List.getElem?_map, hk]; rfl)
  have HLN : Hid (L.length = xs.length) := Lib.hid (by rw [hL, List.length_map])
  obtain ⟨i0, hi0, hz0, hz1, hz2⟩ := info_parts info_rspotN
  have HI := Lib.hid (And.intro hi0 (And.intro hz0 (And.intro hz1 hz2)))
  have HN0 := Lib.hid (And.intro hnw (Whole.made w 26 (smC y)))
  have H6 := Lib.hid h6
  clear hin hx hlen hcell hx0 hL hi0 hz0 hz1 hz2 hnw
  obtain ⟨n, hn⟩ : ∃ n, n = xs.length := ⟨_, rfl⟩
  rw [← hn] at hpos hposi HLN hxn ⊢
  have HNX := Lib.hid hn
  clear hn
  go_enter Try.func43, Try.ntmps43
  go_wp2_with fail
  try go_frame
  go_loopw [5, 6] (fun s5 s6 wr => ∃ (i : Nat) (B : Option Addr) (d : Nat), i ≤ y.s.spots.length ∧ s5 = .slice B i d ∧ s6 = vi i ∧ wr.ownsRow w.heap.size 73 4 (.slice B i d) i ((knB L i).flatMap spL) ∧ newer w wr ∧ Whole wr w.heap.size 26 (smC y)) (fun _ s6 _ => y.s.spots.length - (intOf s6).toNat)
  case atStart => exact ⟨0, none, 0, Nat.zero_le _, rfl, rfl, ⟨rfl, .inl ⟨rfl, rfl⟩⟩, HN0.out.1, HN0.out.2⟩
  case round =>
    obtain ⟨wo, rfl⟩ : ∃ v, v = wr := ⟨_, rfl⟩
    obtain ⟨i, B, d, hi, rfl, rfl, ho, hn1, hx1⟩ := hrel
    have HJ := Lib.hid (And.intro ho (And.intro hn1 hx1))
    have x0c := hx1.at 0 (v := .slice y.sa y.s.spots.length y.sc) rfl
    by_cases hlt : i < y.s.spots.length
    · have hlti : (i : Int) < y.s.spots.length := by omega
      have HLT := Lib.hid hlt
      obtain ⟨b, o, e0, m0, m1⟩ := HM.out 0 i x0 HX0.out hlt
      have c0 := HC0.out
      rw [e0, HL.out 0 x0 HX0.out] at c0
      have c0 := keep_cell c0 hn1
      have m0 := keep_cell m0 hn1
      have m1 := keep_cell m1 hn1
      obtain ⟨mx, hmx⟩ : ∃ v, v = (fnL x0.f i).1 := ⟨_, rfl⟩
      obtain ⟨my, hmy⟩ : ∃ v, v = (fnL x0.f i).2 := ⟨_, rfl⟩
      rw [← hmx] at m0
      rw [← hmy] at m1
      have HB1 : Hid (bxN L i 1 = ⟨⟨mx, mx⟩, ⟨my, my⟩⟩) := Lib.hid (by
        unfold bxN
        rw [show (1 : Nat) = 0 + 1 from rfl, List.take_add_one, HLL.out 0 x0 HX0.out, hmx, hmy]
        rfl)
      clear ho hn1 hx1 e0 hmx hmy
      go_wp2_with fail
      try go_frame
      have hna := newer_trans (newer_allocH wo (.cells #[vi mx, vi my] 47)) (newer_allocH (wo.alloc (.cells #[vi mx, vi my] 47)) (.cells #[vi mx, vi mx, vi my, vi my] 73))
      have hwh := Whole.made (wo.alloc (.cells #[vi mx, vi my] 47)) 73 #[vi mx, vi mx, vi my, vi my]
      rw [World.size_alloc] at hwh
      obtain ⟨pb, hpb⟩ : ∃ v, v = wo.heap.size + 1 := ⟨_, rfl⟩
      rw [← hpb] at hwh
      have HPB := Lib.hid hpb
      have HS := Lib.hid (And.intro hna hwh)
      try rw [← hpb]
      clear hna hwh hpb m0 m1 c0 x0c
      go_loopw [9] (fun s9 wr => ∃ k : Nat, 1 ≤ k ∧ k ≤ n ∧ s9 = vi k ∧ newer wo wr ∧ Whole wr pb 73 (spC (bxN L i k))) (fun s9 _ => n - (intOf s9).toNat)
      case atStart => exact ⟨1, Nat.le_refl _, hpos, rfl, HS.out.1, by rw [HB1.out]; exact HS.out.2⟩
      case round =>
        obtain ⟨k, hk1, hkn, rfl, hn2, hp2⟩ := hrel
        by_cases hltk : k < n
        · have hltki : (k : Int) < n := by omega
          obtain ⟨x, hxk⟩ : ∃ x, xs[k]? = some x := ⟨_, List.getElem?_eq_getElem (by rw [← HNX.out]; exact hltk)⟩
          obtain ⟨b, o, ex, m0, m1⟩ := HM.out k i x hxk HLT.out
          have ck := HC.out k x hxk
          rw [ex, HL.out k x hxk] at ck
          have hnn := newer_trans HJ.out.2.1 hn2
          have ck := keep_cell ck hnn
          have m0 := keep_cell m0 hnn
          have m1 := keep_cell m1 hnn
          obtain ⟨m, hm⟩ : ∃ m, m = fnL x.f i := ⟨_, rfl⟩
          rw [← hm] at m0 m1
          have HBS := Lib.hid (bxN_succ (i := i) (HLL.out k x hxk) hk1)
          rw [← hm] at HBS
          obtain ⟨bx, hbx⟩ : ∃ q, q = bxN L i k := ⟨_, rfl⟩
          rw [← hbx] at hp2 HBS
          have hna := newer_allocH wr (.cells (mvC m) 47)
          have hp3 := hp2.below hna hp2.lt
          have HZ := Lib.hid (And.intro (newer_trans hn2 hna) hp3)
          have HSZ : Hid (wo.heap.size ≤ pb) := Lib.hid (by rw [HPB.out]; omega)
          clear hn2 hxk ex hm hbx hnn
          go_upto_region 11 with fail
          obtain ⟨mb, hmb⟩ : ∃ v, v = wr.heap.size := ⟨_, rfl⟩
          rw [← hmb]
          refine genQ (fun X => newer wo X ∧ Whole X pb 73 (spC bx) ∧ Whole X mb 47 (mvC m)) ⟨HZ.out.1, HZ.out.2, by rw [hmb]; exact Whole.made _ _ _⟩ ?_
          clear HZ hmb hna hp2 hp3 ck m0 m1
          rintro w3 ⟨hn3, hp3, hm3⟩
          have m0 := hm3.at 0 (v := vi m.1) rfl
          have m1 := hm3.at 1 (v := vi m.2) rfl
          have b0 := hp3.at 0 (v := vi bx.x.lo) rfl
          have b1 := hp3.at 1 (v := vi bx.x.hi) rfl
          have b2 := hp3.at 2 (v := vi bx.y.lo) rfl
          have b3 := hp3.at 3 (v := vi bx.y.hi) rfl
          have f0 := hp3.free 0
          have f1 := hp3.free 1
          have f2 := hp3.free 2
          have f3 := hp3.free 3
          obtain ⟨q, hq⟩ : ∃ q : Sp, q = joinP bx m := ⟨_, rfl⟩
          rw [← hq] at HBS
          have e0 : (if m.1 < bx.x.lo then m.1 else bx.x.lo) = q.x.lo := by rw [hq]; rfl
          have e1 : (if bx.x.hi < m.1 then m.1 else bx.x.hi) = q.x.hi := by rw [hq]; rfl
          have e2 : (if m.2 < bx.y.lo then m.2 else bx.y.lo) = q.y.lo := by rw [hq]; rfl
          have e3 : (if bx.y.hi < m.2 then m.2 else bx.y.hi) = q.y.hi := by rw [hq]; rfl
          clear hq
          have HF : Hid (newer wo ((((w3.setCell ⟨pb, 0, none⟩ (vi q.x.lo)).setCell ⟨pb, 1, none⟩ (vi q.x.hi)).setCell ⟨pb, 2, none⟩ (vi q.y.lo)).setCell ⟨pb, 3, none⟩ (vi q.y.hi)) ∧ Whole ((((w3.setCell ⟨pb, 0, none⟩ (vi q.x.lo)).setCell ⟨pb, 1, none⟩ (vi q.x.hi)).setCell ⟨pb, 2, none⟩ (vi q.y.lo)).setCell ⟨pb, 3, none⟩ (vi q.y.hi)) pb 73 (spC q)) := Lib.hid ⟨(((hn3.setCell (p := ⟨pb, 0, none⟩) HSZ.out _).setCell (p := ⟨pb, 1, none⟩) HSZ.out _).setCell (p := ⟨pb, 2, none⟩) HSZ.out _).setCell (p := ⟨pb, 3, none⟩) HSZ.out _, (((hp3.set 0 _).set 1 _).set 2 _).set 3 _⟩
          clear hn3 hp3 hm3
          go_wp2_with fail
          go_roundw
          case rel => exact ⟨k + 1, by omega, by omega, by go_num, HF.out.1, by rw [HBS.out]; exact HF.out.2⟩
          case measure => simp [intOf]; omega
        · obtain rfl : k = n := by omega
          have hltki : ¬ (k : Int) < k := by omega
          have HBK : Hid (bxN L i k = boxN (L.map fun f => fnL f i)) := Lib.hid (by unfold bxN; rw [List.take_of_length_le (by rw [HLN.out]; exact Nat.le_refl _)])
          obtain ⟨bx, hbx⟩ : ∃ q, q = bxN L i k := ⟨_, rfl⟩
          rw [← hbx] at hp2 HBK
          have b0 := hp2.at 0 (v := vi bx.x.lo) rfl
          have b1 := hp2.at 1 (v := vi bx.x.hi) rfl
          have b2 := hp2.at 2 (v := vi bx.y.lo) rfl
          have b3 := hp2.at 3 (v := vi bx.y.hi) rfl
          have hna := newer_allocH wr (.cells (spC bx) 73)
          have HAP : Hid ((wr.alloc (.cells (spC bx) 73)).ownsRow w.heap.size 73 4 (.slice B i d) i ((knB L i).flatMap spL) ∧ Row spL 4 (wr.alloc (.cells (spC bx) 73)) (wr.alloc (.cells (spC bx) 73)).heap.size (some ⟨wr.heap.size, 0, none⟩) [bx] ∧ newer w (wr.alloc (.cells (spC bx) 73)) ∧ Whole (wr.alloc (.cells (spC bx) 73)) w.heap.size 26 (smC y)) := Lib.hid (by
            have h1 := newer_trans hn2 hna
            exact ⟨own_below HJ.out.1 h1, row_of_whole (enc := spL) (s := 4) (fun _ => rfl) (Whole.made wr 73 _) rfl, newer_trans HJ.out.2.1 h1, HJ.out.2.2.below h1 HJ.out.2.2.lt⟩)
          clear hn2 hp2 hbx hna
          go_wp2_with (at_builtin; go_loud ((refine wpList_plain rfl fun _ hK => wp_append_all (enc := spL) (size := 4) w.heap.size (.tmp 75) (.tmp 77) 22 73 i0 (.agg #[vi 0, vi 0, vi 0, vi 0]) 32 Try.underlying22 HI.out.1 HI.out.2.1 HI.out.2.2.1 HI.out.2.2.2 rfl (by omega) (fun _ => rfl) spL_one rfl B i d ((knB L i).flatMap spL) rfl HAP.out.1 [bx] (some ⟨wr.heap.size, 0, none⟩) 1 rfl HAP.out.2.1 (by have := H6.out; have := HLT.out; unfold maxLen; simp only [List.length_singleton]; omega) (by have := H6.out; have := HLT.out; simp only [List.length_singleton]; omega) HAP.out.2.2.1.size fun B2 c2 w5 hown hgr hat => hK _ _ ?_); have HE5 := Lib.hid (And.intro hown (And.intro (below_row HAP.out.2.2.1 HAP.out.1 hgr (Nat.le_refl _)) (HAP.out.2.2.2.grown hgr (own_ne HAP.out.1 HAP.out.2.2.2 (by decide)).symm))); clear hown hgr hat))
          go_roundw
          case rel =>
            refine ⟨i + 1, B2, c2, HLT.out, rfl, by go_num, ?_, HE5.out.2.1, HE5.out.2.2⟩
            have h1 := HE5.out.1
            rw [HBK.out, ← List.flatMap_append, ← knB_succ] at h1
            exact h1
          case measure => simp [intOf]; have := HLT.out; omega
    · obtain rfl : i = y.s.spots.length := by omega
      have hlti : ¬ (y.s.spots.length : Int) < y.s.spots.length := by omega
      clear ho hn1 hx1
      go_wp2_with fail
      go_ret
      exact ⟨B, d, rfl, HJ.out.1, HJ.out.2.1⟩

end Go.Proofs.Ytpmafnifgegfbaa
