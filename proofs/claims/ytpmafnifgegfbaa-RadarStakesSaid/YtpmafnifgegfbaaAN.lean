/- Lists: which comes first, whether two are the same, whether one is among some. -/
import Derived.Test.YtpmafnifgegfbaaAL
import Derived.BigQuiet
namespace Go.Proofs.Ytpmafnifgegfbaa
open Go.RowKit Go.Shelf Go.Deep

theorem less_at : ∀ (k : Nat) (l m : List Int) (x y : Int), goodTo2 l m k → l[k]? = some x → m[k]? = some y → x ≠ y → lessB l m = decide (x < y)
  | 0, a :: l, b :: m, x, y, _, hx, hy, hne => by
    simp only [List.getElem?_cons_zero, Option.some.injEq] at hx hy
    subst hx
    subst hy
    simp only [lessB]
    rw [if_neg hne]
  | k + 1, a :: l, b :: m, x, y, hg, hx, hy, hne => by
    have h0 := hg 0 (by omega)
    simp only [List.getElem?_cons_zero, Option.some.injEq] at h0
    simp only [List.getElem?_cons_succ] at hx hy
    simp only [lessB]
    rw [if_pos h0]
    exact less_at k l m x y (fun j hj => by have := hg (j + 1) (by omega); simpa using this) hx hy hne
  | _, [], _, x, y, _, hx, _, _ => by simp at hx
  | _, _ :: _, [], x, y, _, _, hy, _ => by simp at hy
theorem less_self (l : List Int) : lessB l l = false := Bool.eq_false_iff.2 fun h => less_irrefl l (lessB_iff.1 h)
theorem same_is {l m : List Int} (h : l.length = m.length) : (!lessB l m && !lessB m l) = decide (l = m) := by
  rcases less_or l m h with h1 | h1 | h1
  · have e := lessB_iff.2 h1
    have hne : ¬ l = m := fun e2 => less_irrefl m (by rw [e2] at h1; exact h1)
    rw [e, decide_eq_false hne]
    rfl
  · rw [h1, less_self, decide_eq_true rfl]
    rfl
  · have e := lessB_iff.2 h1
    have hne : ¬ l = m := fun e2 => less_irrefl m (by rw [e2] at h1; exact h1)
    rw [e, decide_eq_false hne, Bool.not_true, Bool.and_false]
set_option maxRecDepth 100000 in
set_option maxHeartbeats 4000000 in
theorem less_any (l m : List Int) (A B : Option Addr) (cp dp : Nat) (w : World) (hlm : l.length = m.length) (hl : l.length ≤ 1000) (hr : Row intL 1 w w.heap.size A l) (hs : Row intL 1 w w.heap.size B m) :
    Calls Try.prog 72 #[.slice A l.length cp, .slice B m.length dp] w fun e w' => e = .returned (.bool (lessB l m)) ∧ newer w w' := by
  have HR := Lib.hid hr
  have HS := Lib.hid hs
  have HLE := Lib.hid hlm
  clear hr hs
  obtain ⟨n, hn⟩ : ∃ n, n = l.length := ⟨_, rfl⟩
  rw [← hlm, ← hn]
  have HN := Lib.hid hn
  rw [← hn] at hl
  clear hlm hn
  go_enter Try.func72, Try.ntmps72
  go_wp2_with fail
  go_loopw [5] (fun s5 wr => ∃ k : Nat, k ≤ n ∧ s5 = .int .i64 k ∧ newer w wr ∧ goodTo2 l m k) (fun s5 _ => n - (intOf s5).toNat)
  case atStart => exact ⟨0, Nat.zero_le _, rfl, newer_refl _, fun _ h => by omega⟩
  case round =>
    obtain ⟨k, hk, rfl, hnw, he⟩ := hrel
    have HE := Lib.hid he
    clear he
    by_cases hlt : k < n
    · obtain ⟨x, hx⟩ := get_of_lt (l := l) (k := k) (by have := HN.out; omega)
      obtain ⟨y, hy⟩ := get_of_lt (l := m) (k := k) (by have := HN.out; have := HLE.out; omega)
      obtain ⟨ab, ao, rfl, _, ha⟩ := row1 (HR.out.below hnw) hx
      obtain ⟨bb, bo, rfl, _, hb⟩ := row1 (HS.out.below hnw) hy
      have hkn : (k : Int) < n := by omega
      have HXY := Lib.hid (And.intro hx hy)
      have HNW := Lib.hid hnw
      clear hx hy hnw
      cases hxy : (x == y)
      · have hxn : (x != y) = true := by simp [bne, hxy]
        have HF := Lib.hid (show lessB l m = decide (x < y) from less_at k l m x y HE.out HXY.out.1 HXY.out.2 (by simpa using hxy))
        go_wp2_with fail
        go_quiet (fail)
        go_wp2_with fail
        go_quiet (fail)
        go_wp2_with fail
        go_ret
        exact ⟨by rw [HF.out]; rfl, newer_trans HNW.out (newer_trans (newer_drewN _ _) (newer_drewN _ _))⟩
      · have hxn : (x != y) = false := by simp [bne, hxy]
        have HF := Lib.hid (show goodTo2 l m (k + 1) from goodTo2_succ HE.out (by rw [HXY.out.1, HXY.out.2]; simpa using hxy))
        go_wp2_with fail
        go_quiet (fail)
        go_wp2_with fail
        go_roundw
        case rel => exact ⟨k + 1, by omega, by go_num, newer_trans HNW.out (newer_drewN _ _), HF.out⟩
        case measure => simp [intOf]; omega
    · have HF := Lib.hid (show lessB l m = false by rw [goodTo2_all (by have := HN.out; have := HLE.out; omega) HE.out (by have := HN.out; omega)]; exact less_self m)
      have HNW := Lib.hid hnw
      clear hnw
      go_wp2_with fail
      go_ret
      exact ⟨by rw [HF.out]; rfl, HNW.out⟩
set_option maxRecDepth 100000 in
set_option maxHeartbeats 1000000 in
theorem same_any (l m : List Int) (A B : Option Addr) (cp dp : Nat) (w : World) (hlm : l.length = m.length) (hl : l.length ≤ 1000) (hr : Row intL 1 w w.heap.size A l) (hs : Row intL 1 w w.heap.size B m) :
    Calls Try.prog 73 #[.slice A l.length cp, .slice B m.length dp] w fun e w' => e = .returned (.bool (decide (l = m))) ∧ newer w w' := by
  have H1 := Lib.hid (less_any l m A B cp dp w hlm hl hr hs)
  have H2 := Lib.hid (fun W (hb : newer w W) => less_any m l B A dp cp W hlm.symm (by omega) ((hs.below hb).more hb.size) ((hr.below hb).more hb.size))
  have HS := Lib.hid (same_is hlm)
  clear hr hs hlm hl
  obtain ⟨r, hr⟩ : ∃ r, r = decide (l = m) := ⟨_, rfl⟩
  rw [← hr] at HS ⊢
  clear hr
  cases h1 : lessB l m with
  | true =>
    rw [h1] at H1 HS
    clear h1
    go_enter Try.func73, Try.ntmps73
    go_wp2_with fail
    refine (H1.out).mono ?_
    rintro e w1 ⟨rfl, hb⟩
    have HE := Lib.hid hb
    clear hb H1
    go_wp2_with fail
    go_ret
    exact ⟨by rw [← HS.out]; rfl, HE.out⟩
  | false =>
    rw [h1] at H1 HS
    clear h1
    obtain ⟨q, hq⟩ : ∃ q, q = lessB m l := ⟨_, rfl⟩
    rw [← hq] at H2 HS
    clear hq
    go_enter Try.func73, Try.ntmps73
    go_wp2_with fail
    refine (H1.out).mono ?_
    rintro e w1 ⟨rfl, hb⟩
    have HE := Lib.hid hb
    clear hb H1
    go_wp2_with fail
    refine (H2.out w1 HE.out).mono ?_
    rintro e w2 ⟨rfl, hb⟩
    have HE2 := Lib.hid (newer_trans HE.out hb)
    clear hb
    go_wp2_with fail
    go_ret
    exact ⟨by rw [← HS.out]; cases q <;> rfl, HE2.out⟩
theorem mem_take {L : List (List Int)} {l x : List Int} {k : Nat} (h : L[k]? = some x) : decide (l ∈ L.take (k + 1)) = (decide (l ∈ L.take k) || decide (x = l)) := by
  rw [List.take_add_one, h, Bool.eq_iff_iff, decide_eq_true_eq, Bool.or_eq_true, decide_eq_true_eq, decide_eq_true_eq, List.mem_append, Option.toList_some, List.mem_singleton]
  constructor
  · rintro (h1 | h1)
    · exact .inl h1
    · exact .inr h1.symm
  · rintro (h1 | h1)
    · exact .inl h1
    · exact .inr h1.symm
set_option maxRecDepth 100000 in
set_option maxHeartbeats 2000000 in
/-- Is a list among some, all as long as it, that rise? -/
theorem listed_any (xs : List Ln) (l : List Int) (A B : Option Addr) (cp dp : Nat) (w : World) (hl : l.length ≤ 1000) (hxl : xs.length ≤ 1000) (hlen : ∀ x ∈ xs, x.l.length = l.length) (hp : (xs.map (·.l)).Pairwise lessL) (hr : LlOk xs A w) (hs : Row intL 1 w w.heap.size B l) :
    Calls Try.prog 40 #[.slice A xs.length cp, .slice B l.length dp] w fun e w' => e = .returned (.tuple #[.bool (decide (l ∈ xs.map (·.l))), .bool true]) ∧ newer w w' := by
  have HR := Lib.hid hr
  have HS := Lib.hid hs
  have HL := Lib.hid (And.intro hlen hp)
  obtain ⟨n, hn⟩ : ∃ n, n = xs.length := ⟨_, rfl⟩
  have HN := Lib.hid hn
  obtain ⟨q, hq⟩ : ∃ q, q = l.length := ⟨_, rfl⟩
  have HQ := Lib.hid hq
  rw [← hn, ← hq]
  rw [← hn] at hxl
  obtain ⟨L, hL⟩ : ∃ L, L = xs.map (·.l) := ⟨_, rfl⟩
  have HLL := Lib.hid hL
  rw [← hL]
  clear hr hs hlen hp hn hq hL
  go_enter Try.func40, Try.ntmps40
  go_wp2_with fail
  go_loopw [6, 7] (fun s6 s7 wr => ∃ k : Nat, k ≤ n ∧ s7 = vi k ∧ s6 = .bool (decide (l ∈ L.take k)) ∧ newer w wr) (fun _ s7 _ => n - (intOf s7).toNat)
  case atStart => exact ⟨0, Nat.zero_le _, rfl, rfl, newer_refl _⟩
  case round =>
    obtain ⟨k, hk, rfl, rfl, hnw⟩ := hrel
    have HNW := Lib.hid hnw
    by_cases hlt : k < n
    case neg =>
      obtain rfl : k = n := by omega
      have HT := Lib.hid (show L.take k = L by rw [HN.out, HLL.out]; exact List.take_of_length_le (by rw [List.length_map]; exact Nat.le_refl _))
      clear hnw
      have hge : ¬ (k : Int) < k := by omega
      go_wp2_with fail
      go_ret2
      exact ⟨by rw [HT.out]; rfl, HNW.out⟩
    case pos =>
      have hkn : (k : Int) < n := by omega
      obtain ⟨x, hx⟩ := get_of_lt (l := xs) (k := k) (by have := HN.out; omega)
      have hxr := HR.out.next hnw
      obtain ⟨ab, ao, ea, _, ca⟩ := rowLn hxr.row hx
      have hxq := HL.out.1 x (List.mem_of_getElem? hx)
      have HX := Lib.hid (And.intro hx hxq)
      have HMT := Lib.hid (mem_take (L := L) (l := l) (x := x.l) (k := k) (by rw [HLL.out, List.getElem?_map, hx]; rfl))
      rw [hxq, ← HQ.out] at ca
      rw [ea]
      obtain ⟨s, hs⟩ : ∃ s, s = decide (l ∈ L.take k) := ⟨_, rfl⟩
      rw [← hs] at HMT
      have HSE := Lib.hid hs
      obtain ⟨e, he⟩ : ∃ e, e = decide (x.l = l) := ⟨_, rfl⟩
      rw [← he] at HMT
      have HSM : Hid (∀ W, newer w W → Calls Try.prog 73 #[.slice x.a q x.c, .slice B q dp] W fun r w' => r = .returned (.bool e) ∧ newer W w') := Lib.hid (fun W hG => by
        have h1 := same_any x.l l x.a B x.c dp W hxq (by omega) ((HR.out.next hG).inn x (List.mem_of_getElem? hx)) ((HS.out.below hG).more hG.size)
        rw [hxq, ← HQ.out, ← he] at h1
        exact h1)
      rw [← hs]
      clear hs he
      by_cases h0 : k = 0
      case pos =>
        have hk0 : ¬ 0 < k := by omega
        clear h0
        clear hnw hxr hx hxq ea
        go_upto_region 5 with fail
        refine wp_words (by kernel_rfl) (region_told_u 24 (by kernel_rfl) (by kernel_rfl) [false, false, false, false, false, false, false, false, false, false, false, false, true, true, true, true, true, true, true, true, true, true, true, false] (fun W => Below wr.heap.size wr W) newer [vIs (.slice (some ⟨ab, ao, none⟩) n cp), vIs (.int .i64 k), vIs (.pointer (some ⟨ab, ao + k, none⟩)), vIs (.slice x.a q x.c), vIs (.int .i64 q), vIs (.slice B q dp), vIs (.int .i64 q), vIs (.bool false), vIs (.bool false), vIs (.int .i64 k), vIs (.bool false), vIs (.bool false), vIs (undef), vIs (undef), vIs (undef), vIs (undef), vIs (undef), vIs (undef), vIs (undef), vIs (undef), vIs (undef), vIs (undef), vIs (undef), vIs (.bool false)] ⟨rfl, rfl, rfl, rfl, rfl, rfl, rfl, rfl, rfl, (fun v W h => by obtain rfl : v = _ := h; rfl), (fun v W h => by obtain rfl : v = _ := h; rfl), (fun v W h => by obtain rfl : v = _ := h; rfl), (fun v W h => by obtain rfl : v = _ := h; simp), (fun v W h => by obtain rfl : v = _ := h; simp), (fun v W h => by obtain rfl : v = _ := h; simp), (fun v W h => by obtain rfl : v = _ := h; simp), (fun v W h => by obtain rfl : v = _ := h; simp), (fun v W h => by obtain rfl : v = _ := h; simp), (fun v W h => by obtain rfl : v = _ := h; simp), (fun v W h => by obtain rfl : v = _ := h; simp), (fun v W h => by obtain rfl : v = _ := h; simp), (fun v W h => by obtain rfl : v = _ := h; simp), (fun v W h => by obtain rfl : v = _ := h; simp), (fun v W h => by obtain rfl : v = _ := h; rfl), trivial⟩ ⟨(fun h => Bool.noConfusion (show false = true from h)), (fun h => Bool.noConfusion (show false = true from h)), (fun h => Bool.noConfusion (show false = true from h)), (fun h => Bool.noConfusion (show false = true from h)), (fun h => Bool.noConfusion (show false = true from h)), (fun h => Bool.noConfusion (show false = true from h)), (fun h => Bool.noConfusion (show false = true from h)), (fun h => Bool.noConfusion (show false = true from h)), (fun h => Bool.noConfusion (show false = true from h)), (fun h => Bool.noConfusion (show false = true from h)), (fun h => Bool.noConfusion (show false = true from h)), (fun h => Bool.noConfusion (show false = true from h)), (fun _ _ => rfl), (fun _ _ => rfl), (fun _ _ => rfl), (fun _ _ => rfl), (fun _ _ => rfl), (fun _ _ => rfl), (fun _ _ => rfl), (fun _ _ => rfl), (fun _ _ => rfl), (fun _ _ => rfl), (fun _ _ => rfl), (fun h => Bool.noConfusion (show false = true from h)), trivial⟩ (fun h k => newer_trans h k) (pickD_stable _ ⟨vIs_st, vIs_st, vIs_st, vIs_st, vIs_st, vIs_st, vIs_st, vIs_st, vIs_st, vIs_st, vIs_st, vIs_st, vIs_st, vIs_st, vIs_st, vIs_st, vIs_st, vIs_st, vIs_st, vIs_st, vIs_st, vIs_st, vIs_st, vIs_st, trivial⟩) (Below.refl _ wr).drew (Below.refl _ _) ?_ ?_)
        · refine ⟨.inr ?_, .inr ?_, .inr ?_, .inr ?_, .inr ?_, .inr ?_, .inr ?_, .inr ?_, .inr ?_, .inr ?_, .inr ?_, .inr ?_, .inl rfl, .inl rfl, .inl rfl, .inl rfl, .inl rfl, .inl rfl, .inl rfl, .inl rfl, .inl rfl, .inl rfl, .inl rfl, .inr ?_, trivial⟩
          · exact fun a W hG _ hO _ => kM 0 rfl (hO.slot 0 (by kernel_rfl)) rfl hG
          · exact fun a W hG _ hO _ => kM 7 rfl (hO.slot 7 (by kernel_rfl)) rfl hG
          · intro a W hG hR hO hp
            have h14 : slotOf a 14 = .slice (some ⟨ab, ao, none⟩) n cp := hp.1
            have h15 : slotOf a 15 = .int .i64 k := hp.2.1
            refine kY (v := .pointer (some ⟨ab, ao + k, none⟩)) hG rfl ?_
            simp [slotOf] at h14 h15
            simp [execOp, go_sem, h14, h15, hkn]
          · intro a W hG hR hO hp
            have h16 : slotOf a 16 = .pointer (some ⟨ab, ao + k, none⟩) := hp.1
            have c0 := keep_cell ca hG
            refine kY (v := .slice x.a q x.c) hG rfl ?_
            simp [slotOf] at h16
            simp [execOp, go_sem, h16, c0]
          · intro a W hG hR hO hp
            have h17 : slotOf a 17 = .slice x.a q x.c := hp.1
            refine kY (v := .int .i64 q) hG rfl ?_
            simp [slotOf] at h17
            simp [go_sem, h17]
          · exact fun a W hG _ hO _ => kM 1 rfl (hO.slot 1 (by kernel_rfl)) rfl hG
          · intro a W hG hR hO hp
            have h19 : slotOf a 19 = .slice B q dp := hp.1
            refine kY (v := .int .i64 q) hG rfl ?_
            simp [slotOf] at h19
            simp [go_sem, h19]
          · intro a W hG hR hO hp
            have h18 : slotOf a 18 = .int .i64 q := hp.1
            have h20 : slotOf a 20 = .int .i64 q := hp.2.1
            refine kY (v := .bool false) hG rfl ?_
            simp [slotOf] at h18 h20
            simp [execOp, go_sem, h18, h20]
          · exact fun a W hG _ _ hp => kM 21 rfl hp.1 rfl hG
          · exact fun a W hG _ hO _ => kM 7 rfl (hO.slot 7 (by kernel_rfl)) rfl hG
          · intro a W hG hR hO hp
            have h23 : slotOf a 23 = .int .i64 k := hp.1
            refine kY (v := .bool false) hG rfl ?_
            simp [slotOf] at h23
            simp [execOp, go_sem, h23, hk0]
          · exact fun a W hG _ _ hp => kM 24 rfl hp.1 rfl hG
          · intro a W hG hR hO hp
            have h25 : slotOf a 25 = .bool false := hp.1
            have h36 : slotOf a 36 = undef := hp.2.1
            refine kY (v := .bool false) hG rfl ?_
            simp [slotOf] at h25 h36
            simp [execOp, go_sem, h25, h36]
        · intro w2 hG hR
          rintro _ rfl _ rfl _ rfl _ rfl _ rfl _ rfl _ rfl _ rfl _ rfl _ rfl _ rfl _ rfl _ rfl _ rfl _ rfl _ rfl _ rfl _ rfl _ rfl _ rfl _ rfl _ rfl _ rfl _ rfl
          change wpList _ _ _ _ _ _
          simp only [Act.put, List.setIfInBounds_toArray, List.set_cons_zero, List.set_cons_succ, List.drop_succ_cons, List.drop_zero]
          have HG2 := Lib.hid (newer_trans HNW.out hG)
          have ca2 := keep_cell ca hG
          clear hG hR ca
          cases s with
          | true =>
            go_wp2_with fail
            refine ⟨⟨k + 1, by omega, rfl, by rw [HMT.out]; rfl, HG2.out⟩, ?_⟩
            simp [intOf]
            omega
          | false =>
            go_wp2_with fail
            refine (HSM.out w2 HG2.out).mono ?_
            rintro _ w3 ⟨rfl, hb⟩
            have HG3 := Lib.hid (newer_trans HG2.out hb)
            clear hb ca2
            go_wp2_with fail
            refine ⟨⟨k + 1, by omega, rfl, by rw [HMT.out]; cases e <;> rfl, HG3.out⟩, ?_⟩
            simp [intOf]
            omega
      case neg =>
        have hk0 : 0 < k := by omega
        clear h0
        obtain ⟨k1, hkk⟩ : ∃ k1, k = k1 + 1 := ⟨k - 1, by omega⟩
        have hk1 : (k : Int) - 1 = k1 := by omega
        have hk1w : IntKind.i64.wrap (k1 : Int) = k1 := IntWalk.i64_in _ (by omega)
        have hk1n : (k1 : Int) < n := by omega
        obtain ⟨z, hz⟩ := get_of_lt (l := xs) (k := k1) (by have := HN.out; omega)
        obtain ⟨ab2, ao2, ea2, _, cz⟩ := rowLn hxr.row hz
        rw [ea] at ea2
        injection ea2 with ea2
        injection ea2 with eb eo
        subst eb
        subst eo
        have hzq := HL.out.1 z (List.mem_of_getElem? hz)
        rw [hzq, ← HQ.out] at cz
        have hls : lessL z.l x.l := by
          have h1 := HL.out.2
          rw [List.pairwise_map] at h1
          have h2 := List.pairwise_iff_getElem.1 h1 k1 k (List.getElem?_eq_some_iff.1 hz).1 (List.getElem?_eq_some_iff.1 hx).1 (by omega)
          rw [(List.getElem?_eq_some_iff.1 hz).2, (List.getElem?_eq_some_iff.1 hx).2] at h2
          exact h2
        have HLS : Hid (∀ W, Below wr.heap.size wr W → Calls Try.prog 72 #[.slice z.a q z.c, .slice x.a q x.c] W fun r w' => r = .returned (.bool true) ∧ newer W w') := Lib.hid (fun W hG => by
          have hr2 := hxr.next hG
          have h1 := less_any z.l x.l z.a x.a z.c x.c W (by omega) (by omega) (hr2.inn z (List.mem_of_getElem? hz)) (hr2.inn x (List.mem_of_getElem? hx))
          rw [hzq, hxq, ← HQ.out, lessB_iff.2 hls] at h1
          exact h1)
        have HKK := Lib.hid hkk
        clear hnw hxr hx hxq ea hz hzq hls hkk
        go_upto_region 5 with fail
        refine wp_words (by kernel_rfl) (region_told_u 24 (by kernel_rfl) (by kernel_rfl) [false, false, false, false, false, false, false, false, false, false, false, false, false, false, false, false, false, false, false, false, false, false, false, false] (fun W => Below wr.heap.size wr W) newer [vIs (.slice (some ⟨ab, ao, none⟩) n cp), vIs (.int .i64 k), vIs (.pointer (some ⟨ab, ao + k, none⟩)), vIs (.slice x.a q x.c), vIs (.int .i64 q), vIs (.slice B q dp), vIs (.int .i64 q), vIs (.bool false), vIs (.bool false), vIs (.int .i64 k), vIs (.bool true), vIs (.bool true), vIs (.slice (some ⟨ab, ao, none⟩) n cp), vIs (.int .i64 k), vIs (.int .i64 k1), vIs (.pointer (some ⟨ab, ao + k1, none⟩)), vIs (.slice z.a q z.c), vIs (.slice (some ⟨ab, ao, none⟩) n cp), vIs (.int .i64 k), vIs (.pointer (some ⟨ab, ao + k, none⟩)), vIs (.slice x.a q x.c), vIs (.bool true), vIs (.bool false), vIs (.bool false)] ⟨rfl, rfl, rfl, rfl, rfl, rfl, rfl, rfl, rfl, (fun v W h => by obtain rfl : v = _ := h; rfl), (fun v W h => by obtain rfl : v = _ := h; rfl), (fun v W h => by obtain rfl : v = _ := h; rfl), (fun v W h => by obtain rfl : v = _ := h; rfl), (fun v W h => by obtain rfl : v = _ := h; rfl), (fun v W h => by obtain rfl : v = _ := h; rfl), (fun v W h => by obtain rfl : v = _ := h; rfl), (fun v W h => by obtain rfl : v = _ := h; rfl), (fun v W h => by obtain rfl : v = _ := h; rfl), (fun v W h => by obtain rfl : v = _ := h; rfl), (fun v W h => by obtain rfl : v = _ := h; rfl), (fun v W h => by obtain rfl : v = _ := h; rfl), (fun v W h => by obtain rfl : v = _ := h; rfl), (fun v W h => by obtain rfl : v = _ := h; rfl), (fun v W h => by obtain rfl : v = _ := h; rfl), trivial⟩ ⟨(fun h => Bool.noConfusion (show false = true from h)), (fun h => Bool.noConfusion (show false = true from h)), (fun h => Bool.noConfusion (show false = true from h)), (fun h => Bool.noConfusion (show false = true from h)), (fun h => Bool.noConfusion (show false = true from h)), (fun h => Bool.noConfusion (show false = true from h)), (fun h => Bool.noConfusion (show false = true from h)), (fun h => Bool.noConfusion (show false = true from h)), (fun h => Bool.noConfusion (show false = true from h)), (fun h => Bool.noConfusion (show false = true from h)), (fun h => Bool.noConfusion (show false = true from h)), (fun h => Bool.noConfusion (show false = true from h)), (fun h => Bool.noConfusion (show false = true from h)), (fun h => Bool.noConfusion (show false = true from h)), (fun h => Bool.noConfusion (show false = true from h)), (fun h => Bool.noConfusion (show false = true from h)), (fun h => Bool.noConfusion (show false = true from h)), (fun h => Bool.noConfusion (show false = true from h)), (fun h => Bool.noConfusion (show false = true from h)), (fun h => Bool.noConfusion (show false = true from h)), (fun h => Bool.noConfusion (show false = true from h)), (fun h => Bool.noConfusion (show false = true from h)), (fun h => Bool.noConfusion (show false = true from h)), (fun h => Bool.noConfusion (show false = true from h)), trivial⟩ (fun h k => newer_trans h k) (pickD_stable _ ⟨vIs_st, vIs_st, vIs_st, vIs_st, vIs_st, vIs_st, vIs_st, vIs_st, vIs_st, vIs_st, vIs_st, vIs_st, vIs_st, vIs_st, vIs_st, vIs_st, vIs_st, vIs_st, vIs_st, vIs_st, vIs_st, vIs_st, vIs_st, vIs_st, trivial⟩) (Below.refl _ wr).drew (Below.refl _ _) ?_ ?_)
        · refine ⟨.inr ?_, .inr ?_, .inr ?_, .inr ?_, .inr ?_, .inr ?_, .inr ?_, .inr ?_, .inr ?_, .inr ?_, .inr ?_, .inr ?_, .inr ?_, .inr ?_, .inr ?_, .inr ?_, .inr ?_, .inr ?_, .inr ?_, .inr ?_, .inr ?_, .inr ?_, .inr ?_, .inr ?_, trivial⟩
          · exact fun a W hG _ hO _ => kM 0 rfl (hO.slot 0 (by kernel_rfl)) rfl hG
          · exact fun a W hG _ hO _ => kM 7 rfl (hO.slot 7 (by kernel_rfl)) rfl hG
          · intro a W hG hR hO hp
            have h14 : slotOf a 14 = .slice (some ⟨ab, ao, none⟩) n cp := hp.1
            have h15 : slotOf a 15 = .int .i64 k := hp.2.1
            refine kY (v := .pointer (some ⟨ab, ao + k, none⟩)) hG rfl ?_
            simp [slotOf] at h14 h15
            simp [execOp, go_sem, h14, h15, hkn]
          · intro a W hG hR hO hp
            have h16 : slotOf a 16 = .pointer (some ⟨ab, ao + k, none⟩) := hp.1
            have c0 := keep_cell ca hG
            refine kY (v := .slice x.a q x.c) hG rfl ?_
            simp [slotOf] at h16
            simp [execOp, go_sem, h16, c0]
          · intro a W hG hR hO hp
            have h17 : slotOf a 17 = .slice x.a q x.c := hp.1
            refine kY (v := .int .i64 q) hG rfl ?_
            simp [slotOf] at h17
            simp [go_sem, h17]
          · exact fun a W hG _ hO _ => kM 1 rfl (hO.slot 1 (by kernel_rfl)) rfl hG
          · intro a W hG hR hO hp
            have h19 : slotOf a 19 = .slice B q dp := hp.1
            refine kY (v := .int .i64 q) hG rfl ?_
            simp [slotOf] at h19
            simp [go_sem, h19]
          · intro a W hG hR hO hp
            have h18 : slotOf a 18 = .int .i64 q := hp.1
            have h20 : slotOf a 20 = .int .i64 q := hp.2.1
            refine kY (v := .bool false) hG rfl ?_
            simp [slotOf] at h18 h20
            simp [execOp, go_sem, h18, h20]
          · exact fun a W hG _ _ hp => kM 21 rfl hp.1 rfl hG
          · exact fun a W hG _ hO _ => kM 7 rfl (hO.slot 7 (by kernel_rfl)) rfl hG
          · intro a W hG hR hO hp
            have h23 : slotOf a 23 = .int .i64 k := hp.1
            refine kY (v := .bool true) hG rfl ?_
            simp [slotOf] at h23
            simp [execOp, go_sem, h23, hk0]
          · exact fun a W hG _ _ hp => kM 24 rfl hp.1 rfl hG
          · exact fun a W hG _ hO _ => kM 0 rfl (hO.slot 0 (by kernel_rfl)) rfl hG
          · exact fun a W hG _ hO _ => kM 7 rfl (hO.slot 7 (by kernel_rfl)) rfl hG
          · intro a W hG hR hO hp
            have h27 : slotOf a 27 = .int .i64 k := hp.1
            refine kY (v := .int .i64 k1) hG rfl ?_
            simp [slotOf] at h27
            simp [execOp, go_sem, h27, hk1, hk1w]
          · intro a W hG hR hO hp
            have h26 : slotOf a 26 = .slice (some ⟨ab, ao, none⟩) n cp := hp.1
            have h28 : slotOf a 28 = .int .i64 k1 := hp.2.1
            refine kY (v := .pointer (some ⟨ab, ao + k1, none⟩)) hG rfl ?_
            simp [slotOf] at h26 h28
            simp [execOp, go_sem, h26, h28, hk1n]
          · intro a W hG hR hO hp
            have h29 : slotOf a 29 = .pointer (some ⟨ab, ao + k1, none⟩) := hp.1
            have c0 := keep_cell cz hG
            refine kY (v := .slice z.a q z.c) hG rfl ?_
            simp [slotOf] at h29
            simp [execOp, go_sem, h29, c0]
          · exact fun a W hG _ hO _ => kM 0 rfl (hO.slot 0 (by kernel_rfl)) rfl hG
          · exact fun a W hG _ hO _ => kM 7 rfl (hO.slot 7 (by kernel_rfl)) rfl hG
          · intro a W hG hR hO hp
            have h31 : slotOf a 31 = .slice (some ⟨ab, ao, none⟩) n cp := hp.1
            have h32 : slotOf a 32 = .int .i64 k := hp.2.1
            refine kY (v := .pointer (some ⟨ab, ao + k, none⟩)) hG rfl ?_
            simp [slotOf] at h31 h32
            simp [execOp, go_sem, h31, h32, hkn]
          · intro a W hG hR hO hp
            have h33 : slotOf a 33 = .pointer (some ⟨ab, ao + k, none⟩) := hp.1
            have c0 := keep_cell ca hG
            refine kY (v := .slice x.a q x.c) hG rfl ?_
            simp [slotOf] at h33
            simp [execOp, go_sem, h33, c0]
          · intro a W hG hR hO hp
            have h30 : slotOf a 30 = .slice z.a q z.c := hp.1
            have h34 : slotOf a 34 = .slice x.a q x.c := hp.2.1
            refine wp_enters (f := 72) (args := #[.slice z.a q z.c, .slice x.a q x.c]) ?_ ((HLS.out W hG).mono ?_)
            · simp [slotOf] at h30 h34
              simp [go_sem, h30, h34]
            · rintro e w' ⟨rfl, hb⟩
              exact ⟨_, rfl, _, rfl, rfl, hb, below_next hG hb⟩
          · intro a W hG hR hO hp
            have h35 : slotOf a 35 = .bool true := hp.1
            refine kY (v := .bool false) hG rfl ?_
            simp [slotOf] at h35
            simp [execOp, go_sem, h35]
          · intro a W hG hR hO hp
            have h25 : slotOf a 25 = .bool true := hp.1
            have h36 : slotOf a 36 = .bool false := hp.2.1
            refine kY (v := .bool false) hG rfl ?_
            simp [slotOf] at h25 h36
            simp [execOp, go_sem, h25, h36]
        · intro w2 hG hR
          rintro _ rfl _ rfl _ rfl _ rfl _ rfl _ rfl _ rfl _ rfl _ rfl _ rfl _ rfl _ rfl _ rfl _ rfl _ rfl _ rfl _ rfl _ rfl _ rfl _ rfl _ rfl _ rfl _ rfl _ rfl
          change wpList _ _ _ _ _ _
          simp only [Act.put, List.setIfInBounds_toArray, List.set_cons_zero, List.set_cons_succ, List.drop_succ_cons, List.drop_zero]
          have HG2 := Lib.hid (newer_trans HNW.out hG)
          have ca2 := keep_cell ca hG
          clear hG hR ca cz
          cases s with
          | true =>
            go_wp2_with fail
            refine ⟨⟨k + 1, by omega, rfl, by rw [HMT.out]; rfl, HG2.out⟩, ?_⟩
            simp [intOf]
            omega
          | false =>
            go_wp2_with fail
            refine (HSM.out w2 HG2.out).mono ?_
            rintro _ w3 ⟨rfl, hb⟩
            have HG3 := Lib.hid (newer_trans HG2.out hb)
            clear hb ca2
            go_wp2_with fail
            refine ⟨⟨k + 1, by omega, rfl, by rw [HMT.out]; cases e <;> rfl, HG3.out⟩, ?_⟩
            simp [intOf]
            omega

end Go.Proofs.Ytpmafnifgegfbaa
