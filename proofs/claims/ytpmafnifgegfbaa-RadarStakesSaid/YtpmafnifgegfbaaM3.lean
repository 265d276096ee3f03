/- The error of stakes, before whole turns are asked. -/
import Derived.Test.YtpmafnifgegfbaaM1
import Derived.Test.YtpmafnifgegfbaaM2
import Derived.Test.YtpmafnifgegfbaaAF
namespace Go.Proofs.Ytpmafnifgegfbaa
open Go.RowKit Go.Shelf Go.Deep

/-- Does a stake see a field so that a read may come? -/
def seesB (s : Sd) (t : Tl) (r : Int) (f : List Mv) : Bool := decide (amt (r - sightN t (fnL f t.spot.toNat)) ≤ offN t s.day)
/-- How many lists a read leaves. -/
def leftC (s : Sd) (all : List (List Mv)) (t : Tl) (r : Int) : Int := ((turnsR s (all.filter (seesB s t r))).length : Nat)
/-- The worst of the first reads. -/
def worstK (s : Sd) (all : List (List Mv)) (t : Tl) : Nat → Int
  | 0 => 0
  | k + 1 => if all.any (seesB s t ((k : Int) - 420)) = true then (if worstK s all t k < leftC s all t ((k : Int) - 420) then leftC s all t ((k : Int) - 420) else worstK s all t k) else worstK s all t k
theorem worstK_succ (s : Sd) (all : List (List Mv)) (t : Tl) (k : Nat) : worstK s all t (k + 1) = if all.any (seesB s t ((k : Int) - 420)) = true then (if worstK s all t k < leftC s all t ((k : Int) - 420) then leftC s all t ((k : Int) - 420) else worstK s all t k) else worstK s all t k := rfl
theorem turnsR_few {s : Sd} (h3 : s.tools.length ≤ 3) (all : List (List Mv)) : (turnsR s all).length ≤ 27027009001 := by
  have h := tuL_ok s all all.length 0
  rw [tuL_zero, List.take_length] at h
  exact h.few (Nat.le_trans (turnN_le _) h3)
theorem leftC_bd {s : Sd} (h3 : s.tools.length ≤ 3) (all : List (List Mv)) (t : Tl) (r : Int) : 0 ≤ leftC s all t r ∧ leftC s all t r ≤ 27027009001 := by
  have h := turnsR_few h3 (all.filter (seesB s t r))
  unfold leftC
  omega
theorem worstK_bd {s : Sd} (h3 : s.tools.length ≤ 3) (all : List (List Mv)) (t : Tl) : ∀ k, 0 ≤ worstK s all t k ∧ worstK s all t k ≤ 27027009001
  | 0 => by simp [worstK]
  | k + 1 => by
    have h := worstK_bd h3 all t k
    have h2 := leftC_bd h3 all t ((k : Int) - 420)
    rw [worstK]
    split
    · split <;> omega
    · exact h
/-- A stake that looks at a survey's spot: what it takes to step through. -/
structure SeeOk (y : Sm) (xs : List Fl) (A : Option Addr) (B0 : Nat) (t : Tl) (w : World) : Prop where
  hs : SdOk y.s
  ht : TlOk y.s.spots.length y.s.day t
  hr : Row flL 1 w w.heap.size A xs
  hin : FlIn B0 xs w
  hn : xs.length ≤ 5000000
  hf : ∀ x ∈ xs, x.f ∈ allR y.s
theorem SeeOk.next {y : Sm} {xs : List Fl} {A : Option Addr} {B0 : Nat} {t : Tl} {w w' : World} (h : SeeOk y xs A B0 t w) (hb : newer w w') : SeeOk y xs A B0 t w' := ⟨h.hs, h.ht, (h.hr.below hb).more hb.size, h.hin.next hb, h.hn, h.hf⟩
theorem SeeOk.cell {y : Sm} {xs : List Fl} {A : Option Addr} {B0 : Nat} {t : Tl} {w : World} (h : SeeOk y xs A B0 t w) {k : Nat} {x : Fl} (hk : xs[k]? = some x) : ∃ ab ao fb fo, A = some ⟨ab, ao, none⟩ ∧ x.a = some ⟨fb, fo, none⟩ ∧ w.cell? ⟨ab, ao + k, none⟩ = some (.slice x.a x.f.length x.c) ∧ t.spot.toNat < x.f.length ∧ w.cell? ⟨fb, fo + t.spot.toNat * 2, none⟩ = some (vi (fnL x.f t.spot.toNat).1) ∧ w.cell? ⟨fb, fo + t.spot.toNat * 2 + 1, none⟩ = some (vi (fnL x.f t.spot.toNat).2) ∧ (-30 ≤ (fnL x.f t.spot.toNat).1 ∧ (fnL x.f t.spot.toNat).1 ≤ 30) ∧ (-30 ≤ (fnL x.f t.spot.toNat).2 ∧ (fnL x.f t.spot.toNat).2 ≤ 30) := by
  obtain ⟨ab, ao, e, -, hcell⟩ := h.hr (fun e => by rw [e] at hk; simp at hk)
  have hc := hcell k x hk 0 _ rfl
  rw [Nat.mul_one, Nat.add_zero] at hc
  have hx := List.mem_of_getElem? hk
  obtain ⟨hl, hb⟩ := fields_bd h.hs (h.hf x hx)
  have hsp : t.spot.toNat < x.f.length := by have := h.ht.spot; omega
  have hm : x.f[t.spot.toNat]? = some (x.f[t.spot.toNat]'hsp) := List.getElem?_eq_getElem hsp
  obtain ⟨fb, fo, e2, -, m0, m1⟩ := row2 (h.hin.ok x hx) hm
  have hbm := hb _ (List.mem_of_getElem? hm)
  rw [fnL_at hm]
  exact ⟨ab, ao, fb, fo, e, e2, hc, hsp, m0, m1, hbm.1, hbm.2⟩
set_option maxRecDepth 100000 in
set_option maxHeartbeats 4000000 in
theorem comes_any (y : Sm) (xs : List Fl) (A : Option Addr) (c B0 : Nat) (t : Tl) (r : Int) (w : World) (ho : SeeOk y xs A B0 t w) (hrb : -420 ≤ r ∧ r ≤ 420) : Calls Try.prog 85 #[smV y, .slice A xs.length c, tlV t, vi r] w fun e w' => e = .returned (.bool (xs.any fun x => seesB y.s t r x.f)) ∧ newer w w' := by
  have hnb := newer_trans (newer_allocH w (.cells (smC y) 26)) (newer_allocH (w.alloc (.cells (smC y) 26)) (.cells (tlC t) 43))
  have hsb := (Whole.made w 26 (smC y)).alloc (.cells (tlC t) 43)
  have htb := Whole.made (w.alloc (.cells (smC y) 26)) 43 (tlC t)
  rw [World.size_alloc] at htb
  have HO := Lib.hid ho
  have HB0 := Lib.hid (And.intro hnb (And.intro hsb htb))
  obtain ⟨n, hn⟩ : ∃ n, n = xs.length := ⟨_, rfl⟩
  have hn5 : n ≤ 5000000 := by rw [hn]; exact ho.hn
  rw [← hn]
  have HN := Lib.hid hn
  clear ho hnb hsb htb hn
  go_enter Try.func85, Try.ntmps85
  go_upto_region 1 with fail
  obtain ⟨sb, hsb⟩ : ∃ q, q = w.heap.size := ⟨_, rfl⟩
  rw [← hsb] at HB0 ⊢
  obtain ⟨tb, htb⟩ : ∃ q, q = sb + 1 := ⟨_, rfl⟩
  rw [← htb] at HB0
  try rw [← htb]
  refine genQ (fun X => newer w X ∧ Whole X sb 26 (smC y) ∧ Whole X tb 43 (tlC t)) HB0.out ?_
  clear HB0 hsb htb
  rintro w1 ⟨g1, g2, g3⟩
  have HB1 := Lib.hid (And.intro g1 (And.intro g2 g3))
  clear g1 g2 g3
  go_wp2_with fail
  try go_frame
  go_loopw [9] (fun s9 wr => ∃ k : Nat, k ≤ n ∧ s9 = vi k ∧ ((xs.take k).any fun x => seesB y.s t r x.f) = false ∧ newer w wr ∧ Whole wr sb 26 (smC y) ∧ Whole wr tb 43 (tlC t)) (fun s9 _ => n - (intOf s9).toNat)
  case atStart => exact ⟨0, Nat.zero_le _, rfl, rfl, HB1.out.1, HB1.out.2.1, HB1.out.2.2⟩
  case round =>
    obtain ⟨k, hk, rfl, hany, hnw, hx, hxt⟩ := hrel
    have HJ := Lib.hid (And.intro hnw (And.intro hx hxt))
    have HA := Lib.hid hany
    clear hnw hx hxt hany
    by_cases hlt : k < n
    · have hin : (k : Int) < n := by omega
      obtain ⟨x, hxk⟩ : ∃ x, xs[k]? = some x := ⟨_, List.getElem?_eq_getElem (by rw [← HN.out]; exact hlt)⟩
      obtain ⟨ab, ao, fb, fo, rfl, ex, cx, hsp, m0, m1, hm1, hm2⟩ := (HO.out.next HJ.out.1).cell hxk
      rw [ex] at cx
      obtain ⟨sp, hspe⟩ : ∃ q : Nat, q = t.spot.toNat := ⟨_, rfl⟩
      rw [← hspe] at hsp m0 m1 hm1 hm2
      obtain ⟨m, hme⟩ : ∃ m, m = fnL x.f sp := ⟨_, rfl⟩
      rw [← hme] at m0 m1 hm1 hm2
      have hto := HO.out.ht
      have hdy := HO.out.hs.day
      have hsf : (sp : Int) < x.f.length := by omega
      have HSG : Hid (∀ W, Calls Try.prog 23 #[tlV t, mvV m] W fun e w' => e = .returned (vi (sightN t m)) ∧ newer W w') := Lib.hid (fun W => refSight_any t m W (by have := hto.a; omega) (by have := hto.b; omega) (by omega) (by omega))
      have HOF : Hid (∀ W, Calls Try.prog 22 #[tlV t, vi y.s.day] W fun e w' => e = .returned (vi (offN t y.s.day)) ∧ newer W w') := Lib.hid (fun W => refOff_any t y.s.day W (by have := hto.err; omega) (by have := hto.drift; omega) (by have := hto.since; omega) (by omega))
      have hsgb := sight_bd hto hm1 hm2
      obtain ⟨sg, hsg⟩ : ∃ q, q = sightN t m := ⟨_, rfl⟩
      obtain ⟨of, hof⟩ : ∃ q, q = offN t y.s.day := ⟨_, rfl⟩
      rw [← hsg] at HSG hsgb
      rw [← hof] at HOF
      obtain ⟨df, hdf⟩ : ∃ q, q = r - sg := ⟨_, rfl⟩
      have hwr : IntKind.i64.wrap (r - sg) = df := by rw [hdf]; exact IntWalk.i64_in _ (by omega)
      have HAM : Hid (∀ W, Calls Try.prog 106 #[vi df] W fun e w' => e = .returned (vi (amt df)) ∧ W = w') := Lib.hid (fun W => abs_any df W (by omega))
      obtain ⟨am, ham⟩ : ∃ q, q = amt df := ⟨_, rfl⟩
      rw [← ham] at HAM
      obtain ⟨b, hbd⟩ : ∃ b, decide (am ≤ of) = b := ⟨_, rfl⟩
      have HSB : Hid (seesB y.s t r x.f = b) := Lib.hid (by unfold seesB; rw [← hspe, ← hme, ← hsg, ← hdf, ← ham, ← hof, hbd])
      have t0 := HJ.out.2.2.at 0 (v := vi t.spot) rfl
      have ts : wr.cell? ⟨tb, 0, none⟩ = some (.int .i64 sp) := by rw [t0, hspe]; have := hto.spot; exact congrArg some (congrArg vi (by omega))
      have t1 := HJ.out.2.2.at 1 (v := vi t.a) rfl
      have t2 := HJ.out.2.2.at 2 (v := vi t.b) rfl
      have t3 := HJ.out.2.2.at 3 (v := vi t.turn) rfl
      have t4 := HJ.out.2.2.at 4 (v := vi t.err) rfl
      have t5 := HJ.out.2.2.at 5 (v := vi t.drift) rfl
      have t6 := HJ.out.2.2.at 6 (v := vi t.since) rfl
      have x3 := HJ.out.2.1.at 3 (v := vi y.s.day) rfl
      have HXK := Lib.hid hxk
      have HLT := Lib.hid hlt
      clear hto hdy hsp hspe hme hsgb hsg hof hdf ham hxk ex hm1 hm2

      go_upto_region 4 with fail
      refine wp_words (by kernel_rfl) (region_told 17 (by kernel_rfl) (by kernel_rfl) (fun W => Below wr.heap.size wr W) newer (pickD [vIs (vi r), vIs (tlV t), vIs (.slice (some ⟨ab, ao, none⟩) n c), vIs (.int .i64 k), vIs (.pointer (some ⟨ab, ao + k, none⟩)), vIs (.slice (some ⟨fb, fo, none⟩) x.f.length x.c), vIs (.pointer (some ⟨tb, 0, none⟩)), vIs (.int .i64 sp), vIs (.pointer (some ⟨fb, fo + sp * 2, none⟩)), vIs (mvV m), vIs (vi sg), vIs (vi df), vIs (vi am), vIs (tlV t), vIs (.pointer (some ⟨sb, 3, none⟩)), vIs (vi y.s.day), vIs (vi of)]) (fun h k => newer_trans h k) (pickD_stable _ ⟨vIs_st, vIs_st, vIs_st, vIs_st, vIs_st, vIs_st, vIs_st, vIs_st, vIs_st, vIs_st, vIs_st, vIs_st, vIs_st, vIs_st, vIs_st, vIs_st, vIs_st, trivial⟩) (Below.refl _ wr).drew (Below.refl _ _) ?_ ?_)
      · refine ⟨?_, ?_, ?_, ?_, ?_, ?_, ?_, ?_, ?_, ?_, ?_, ?_, ?_, ?_, ?_, ?_, ?_, trivial⟩
        · exact fun a W hG _ hO _ => kM 3 rfl (hO.slot 3 (by kernel_rfl)) rfl hG
        · intro a W hG hR hO hp
          have h6 := hO.slot 6 (by kernel_rfl)
          have c0 := keep_cell t0 hG
          have c1 := keep_cell t1 hG
          have c2 := keep_cell t2 hG
          have c3 := keep_cell t3 hG
          have c4 := keep_cell t4 hG
          have c5 := keep_cell t5 hG
          have c6 := keep_cell t6 hG
          refine kY (v := tlV t) hG rfl ?_
          simp [slotOf] at h6
          simp [execOp, go_sem, h6, c0, c1, c2, c3, c4, c5, c6]
        · exact fun a W hG _ hO _ => kM 1 rfl (hO.slot 1 (by kernel_rfl)) rfl hG
        · exact fun a W hG _ hO _ => kM 9 rfl (hO.slot 9 (by kernel_rfl)) rfl hG
        · intro a W hG hR hO hp
          have h18 : slotOf a 18 = .slice (some ⟨ab, ao, none⟩) n c := hp.1
          have h19 : slotOf a 19 = .int .i64 k := hp.2.1
          refine kY (v := .pointer (some ⟨ab, ao + k, none⟩)) hG rfl ?_
          simp [slotOf] at h18 h19
          simp [execOp, go_sem, h18, h19, hin]
        · intro a W hG hR hO hp
          have h20 : slotOf a 20 = .pointer (some ⟨ab, ao + k, none⟩) := hp.1
          have c0 := keep_cell cx hG
          refine kY (v := .slice (some ⟨fb, fo, none⟩) x.f.length x.c) hG rfl ?_
          simp [slotOf] at h20
          simp [execOp, go_sem, h20, c0]
        · intro a W hG hR hO hp
          have h6 := hO.slot 6 (by kernel_rfl)
          refine kY (v := .pointer (some ⟨tb, 0, none⟩)) hG rfl ?_
          simp [slotOf] at h6
          simp [execOp, go_sem, h6]
        · intro a W hG hR hO hp
          have h22 : slotOf a 22 = .pointer (some ⟨tb, 0, none⟩) := hp.1
          have c0 := keep_cell ts hG
          refine kY (v := .int .i64 sp) hG rfl ?_
          simp [slotOf] at h22
          simp [execOp, go_sem, h22, c0]
        · intro a W hG hR hO hp
          have h21 : slotOf a 21 = .slice (some ⟨fb, fo, none⟩) x.f.length x.c := hp.1
          have h23 : slotOf a 23 = .int .i64 sp := hp.2.1
          refine kY (v := .pointer (some ⟨fb, fo + sp * 2, none⟩)) hG rfl ?_
          simp [slotOf] at h21 h23
          simp [execOp, go_sem, h21, h23, hsf]
        · intro a W hG hR hO hp
          have h24 : slotOf a 24 = .pointer (some ⟨fb, fo + sp * 2, none⟩) := hp.1
          have c0 := keep_cell m0 hG
          have c1 := keep_cell m1 hG
          refine kY (v := mvV m) hG rfl ?_
          simp [slotOf] at h24
          simp [execOp, go_sem, h24, c0, c1]
        · intro a W hG hR hO hp
          have h17 : slotOf a 17 = tlV t := hp.1
          have h25 : slotOf a 25 = mvV m := hp.2.1
          refine wp_enters (f := 23) (args := #[tlV t, mvV m]) ?_ ((HSG.out W).mono ?_)
          · simp [slotOf] at h17 h25
            simp [go_sem, h17, h25]
          · rintro e w' ⟨rfl, hb⟩
            exact ⟨_, rfl, _, rfl, rfl, hb, below_next hG hb⟩
        · intro a W hG hR hO hp
          have h16 : slotOf a 16 = vi r := hp.1
          have h26 : slotOf a 26 = vi sg := hp.2.1
          refine kY (v := vi df) hG rfl ?_
          simp [slotOf] at h16 h26
          simp [execOp, go_sem, h16, h26, hwr]
        · intro a W hG hR hO hp
          have h27 : slotOf a 27 = vi df := hp.1
          refine wp_enters (f := 106) (args := #[vi df]) ?_ ((HAM.out W).mono ?_)
          · simp [slotOf] at h27
            simp [go_sem, h27]
          · rintro e w' ⟨rfl, rfl⟩
            exact ⟨_, rfl, _, rfl, rfl, Below.refl _ _, hG⟩
        · intro a W hG hR hO hp
          have h6 := hO.slot 6 (by kernel_rfl)
          have c0 := keep_cell t0 hG
          have c1 := keep_cell t1 hG
          have c2 := keep_cell t2 hG
          have c3 := keep_cell t3 hG
          have c4 := keep_cell t4 hG
          have c5 := keep_cell t5 hG
          have c6 := keep_cell t6 hG
          refine kY (v := tlV t) hG rfl ?_
          simp [slotOf] at h6
          simp [execOp, go_sem, h6, c0, c1, c2, c3, c4, c5, c6]
        · intro a W hG hR hO hp
          have h4 := hO.slot 4 (by kernel_rfl)
          refine kY (v := .pointer (some ⟨sb, 3, none⟩)) hG rfl ?_
          simp [slotOf] at h4
          simp [execOp, go_sem, h4]
        · intro a W hG hR hO hp
          have h30 : slotOf a 30 = .pointer (some ⟨sb, 3, none⟩) := hp.1
          have c0 := keep_cell x3 hG
          refine kY (v := vi y.s.day) hG rfl ?_
          simp [slotOf] at h30
          simp [execOp, go_sem, h30, c0]
        · intro a W hG hR hO hp
          have h29 : slotOf a 29 = tlV t := hp.1
          have h31 : slotOf a 31 = vi y.s.day := hp.2.1
          refine wp_enters (f := 22) (args := #[tlV t, vi y.s.day]) ?_ ((HOF.out W).mono ?_)
          · simp [slotOf] at h29 h31
            simp [go_sem, h29, h31]
          · rintro e w' ⟨rfl, hb⟩
            exact ⟨_, rfl, _, rfl, rfl, hb, below_next hG hb⟩
      · intro w5 hG hR
        rintro _ rfl _ rfl _ rfl _ rfl _ rfl _ rfl _ rfl _ rfl _ rfl _ rfl _ rfl _ rfl _ rfl _ rfl _ rfl _ rfl _ rfl
        change wpList _ _ _ _ _ _
        simp only [Act.put, List.setIfInBounds_toArray, List.set_cons_zero, List.set_cons_succ, List.drop_succ_cons, List.drop_zero]
        have HW := Lib.hid (And.intro (newer_trans HJ.out.1 hG) (And.intro (HJ.out.2.1.below hG HJ.out.2.1.lt) (HJ.out.2.2.below hG HJ.out.2.2.lt)))
        have HTK : Hid (((xs.take (k + 1)).any fun x => seesB y.s t r x.f) = b) := Lib.hid (by rw [List.take_add_one, HXK.out, List.any_append, HA.out]; simp [HSB.out])
        clear hG hR cx m0 m1 t0 ts t1 t2 t3 t4 t5 t6 x3 hwr HSG HOF HAM
        cases b with
        | false =>
          have hle : ¬ am ≤ of := of_decide_eq_false hbd
          clear hbd
          go_wp2_with fail
          go_roundw
          case rel => exact ⟨k + 1, HLT.out, by go_num, HTK.out, HW.out.1, HW.out.2.1, HW.out.2.2⟩
          case measure => simp [intOf]; omega
        | true =>
          have hle : am ≤ of := of_decide_eq_true hbd
          clear hbd
          have HT : Hid ((xs.any fun x => seesB y.s t r x.f) = true) := Lib.hid (List.any_eq_true.2 ⟨x, List.mem_of_getElem? HXK.out, HSB.out⟩)
          go_wp2_with fail
          go_ret
          exact ⟨by rw [HT.out]; rfl, HW.out.1⟩
    · obtain rfl : k = n := by omega
      have hin : ¬ (k : Int) < k := by omega
      have HT : Hid ((xs.any fun x => seesB y.s t r x.f) = false) := Lib.hid (by have h := HA.out; rw [HN.out, List.take_length] at h; exact h)
      go_wp2_with fail
      go_ret
      exact ⟨by rw [HT.out]; rfl, HJ.out.1⟩
theorem take_filter_yes {p : Fl → Bool} {l : List Fl} {k : Nat} {x : Fl} (h : l[k]? = some x) (hp : p x = true) : (l.take (k + 1)).filter p = (l.take k).filter p ++ [x] := by
  rw [List.take_add_one, h, List.filter_append, Option.toList_some, List.filter_cons_of_pos hp, List.filter_nil]
theorem take_filter_no {p : Fl → Bool} {l : List Fl} {k : Nat} {x : Fl} (h : l[k]? = some x) (hp : p x = false) : (l.take (k + 1)).filter p = (l.take k).filter p := by
  rw [List.take_add_one, h, List.filter_append, Option.toList_some, List.filter_cons_of_neg (by rw [hp]; decide), List.filter_nil, List.append_nil]
set_option maxRecDepth 100000 in
set_option maxHeartbeats 4000000 in
theorem left_any (y : Sm) (xs : List Fl) (A : Option Addr) (c B0 : Nat) (t : Tl) (r : Int) (w : World) (hok : SmOk y w) (h3 : y.s.tools.length ≤ 3) (ho : SeeOk y xs A B0 t w) (hrb : -420 ≤ r ∧ r ≤ 420) : Calls Try.prog 86 #[smV y, .slice A xs.length c, tlV t, vi r] w fun e w' => e = .returned (vi (leftC y.s (xs.map (·.f)) t r)) ∧ newer w w' := by
  have HOK := Lib.hid hok
  have HT3 := Lib.hid h3
  obtain ⟨i0, hi0, hz0, hz1, hz2⟩ := info_parts info_fl
  have HI := Lib.hid (And.intro hi0 (And.intro hz0 (And.intro hz1 hz2)))
  clear hok h3 hi0 hz0 hz1 hz2
  have hnb := newer_trans (newer_allocH w (.cells (smC y) 26)) (newer_allocH (w.alloc (.cells (smC y) 26)) (.cells (tlC t) 43))
  have hsb := (Whole.made w 26 (smC y)).alloc (.cells (tlC t) 43)
  have htb := Whole.made (w.alloc (.cells (smC y) 26)) 43 (tlC t)
  rw [World.size_alloc] at htb
  have HO := Lib.hid ho
  have HB0 := Lib.hid (And.intro hnb (And.intro hsb htb))
  obtain ⟨n, hn⟩ : ∃ n, n = xs.length := ⟨_, rfl⟩
  have hn5 : n ≤ 5000000 := by rw [hn]; exact ho.hn
  rw [← hn]
  have HN := Lib.hid hn
  clear ho hnb hsb htb hn
  go_enter Try.func86, Try.ntmps86
  go_upto_region 1 with fail
  obtain ⟨sb, hsb⟩ : ∃ q, q = w.heap.size := ⟨_, rfl⟩
  rw [← hsb] at HB0 ⊢
  obtain ⟨tb, htb⟩ : ∃ q, q = sb + 1 := ⟨_, rfl⟩
  rw [← htb] at HB0
  try rw [← htb]
  have HST := Lib.hid (And.intro hsb htb)
  refine genQ (fun X => newer w X ∧ Whole X sb 26 (smC y) ∧ Whole X tb 43 (tlC t)) HB0.out ?_
  clear HB0 hsb htb
  rintro w1 ⟨g1, g2, g3⟩
  have HB1 := Lib.hid (And.intro g1 (And.intro g2 g3))
  clear g1 g2 g3
  obtain ⟨p, hp⟩ : ∃ p : Fl → Bool, p = fun x => seesB y.s t r x.f := ⟨_, rfl⟩
  have HP := Lib.hid hp
  clear hp
  go_wp2_with fail
  try go_frame
  go_loopw [9, 10] (fun s9 s10 wr => ∃ (k q : Nat) (B : Option Addr) (d : Nat), k ≤ n ∧ q ≤ k ∧ q = ((xs.take k).filter p).length ∧ s9 = .slice B q d ∧ s10 = vi k ∧ wr.ownsRow w1.heap.size 34 1 (.slice B q d) q (((xs.take k).filter p).flatMap flL) ∧ newer w wr ∧ Whole wr sb 26 (smC y) ∧ Whole wr tb 43 (tlC t) ∧ newer w1 wr) (fun _ s10 _ => n - (intOf s10).toNat)
  case atStart => exact ⟨0, 0, none, 0, Nat.zero_le _, Nat.le_refl _, rfl, rfl, rfl, ⟨rfl, .inl ⟨rfl, rfl⟩⟩, HB1.out.1, HB1.out.2.1, HB1.out.2.2, newer_refl _⟩
  case round =>
    obtain ⟨k, q, B, d, hk, hqk, hq, rfl, rfl, hown, hnw, hx, hxt, hn1⟩ := hrel
    have HJ := Lib.hid (And.intro hnw (And.intro hx hxt))
    have HK := Lib.hid (And.intro hq (And.intro hown hn1))
    clear hnw hx hxt hown hn1 hq
    by_cases hlt : k < n
    · have hin : (k : Int) < n := by omega
      obtain ⟨x, hxk⟩ : ∃ x, xs[k]? = some x := ⟨_, List.getElem?_eq_getElem (by rw [← HN.out]; exact hlt)⟩
      obtain ⟨ab, ao, fb, fo, rfl, ex, cx, hsp, m0, m1, hm1, hm2⟩ := (HO.out.next HJ.out.1).cell hxk
      rw [ex] at cx
      obtain ⟨sp, hspe⟩ : ∃ q : Nat, q = t.spot.toNat := ⟨_, rfl⟩
      rw [← hspe] at hsp m0 m1 hm1 hm2
      obtain ⟨m, hme⟩ : ∃ m, m = fnL x.f sp := ⟨_, rfl⟩
      rw [← hme] at m0 m1 hm1 hm2
      have hto := HO.out.ht
      have hdy := HO.out.hs.day
      have hsf : (sp : Int) < x.f.length := by omega
      have HSG : Hid (∀ W, Calls Try.prog 23 #[tlV t, mvV m] W fun e w' => e = .returned (vi (sightN t m)) ∧ newer W w') := Lib.hid (fun W => refSight_any t m W (by have := hto.a; omega) (by have := hto.b; omega) (by omega) (by omega))
      have HOF : Hid (∀ W, Calls Try.prog 22 #[tlV t, vi y.s.day] W fun e w' => e = .returned (vi (offN t y.s.day)) ∧ newer W w') := Lib.hid (fun W => refOff_any t y.s.day W (by have := hto.err; omega) (by have := hto.drift; omega) (by have := hto.since; omega) (by omega))
      have hsgb := sight_bd hto hm1 hm2
      obtain ⟨sg, hsg⟩ : ∃ q, q = sightN t m := ⟨_, rfl⟩
      obtain ⟨of, hof⟩ : ∃ q, q = offN t y.s.day := ⟨_, rfl⟩
      rw [← hsg] at HSG hsgb
      rw [← hof] at HOF
      obtain ⟨df, hdf⟩ : ∃ q, q = r - sg := ⟨_, rfl⟩
      have hwr : IntKind.i64.wrap (r - sg) = df := by rw [hdf]; exact IntWalk.i64_in _ (by omega)
      have HAM : Hid (∀ W, Calls Try.prog 106 #[vi df] W fun e w' => e = .returned (vi (amt df)) ∧ W = w') := Lib.hid (fun W => abs_any df W (by omega))
      obtain ⟨am, ham⟩ : ∃ q, q = amt df := ⟨_, rfl⟩
      rw [← ham] at HAM
      obtain ⟨b, hbd⟩ : ∃ b, decide (am ≤ of) = b := ⟨_, rfl⟩
      have HSB : Hid (seesB y.s t r x.f = b) := Lib.hid (by unfold seesB; rw [← hspe, ← hme, ← hsg, ← hdf, ← ham, ← hof, hbd])
      have t0 := HJ.out.2.2.at 0 (v := vi t.spot) rfl
      have ts : wr.cell? ⟨tb, 0, none⟩ = some (.int .i64 sp) := by rw [t0, hspe]; have := hto.spot; exact congrArg some (congrArg vi (by omega))
      have t1 := HJ.out.2.2.at 1 (v := vi t.a) rfl
      have t2 := HJ.out.2.2.at 2 (v := vi t.b) rfl
      have t3 := HJ.out.2.2.at 3 (v := vi t.turn) rfl
      have t4 := HJ.out.2.2.at 4 (v := vi t.err) rfl
      have t5 := HJ.out.2.2.at 5 (v := vi t.drift) rfl
      have t6 := HJ.out.2.2.at 6 (v := vi t.since) rfl
      have x3 := HJ.out.2.1.at 3 (v := vi y.s.day) rfl
      have HXK := Lib.hid hxk
      have HEX := Lib.hid ex
      have HLT := Lib.hid hlt
      clear hto hdy hsp hspe hme hsgb hsg hof hdf ham hxk ex hm1 hm2

      have cx := cx
      go_upto_region 5 with fail
      refine wp_words (by kernel_rfl) (region_told 17 (by kernel_rfl) (by kernel_rfl) (fun W => Below wr.heap.size wr W) newer (pickD [vIs (vi r), vIs (tlV t), vIs (.slice (some ⟨ab, ao, none⟩) n c), vIs (.int .i64 k), vIs (.pointer (some ⟨ab, ao + k, none⟩)), vIs (.slice (some ⟨fb, fo, none⟩) x.f.length x.c), vIs (.pointer (some ⟨tb, 0, none⟩)), vIs (.int .i64 sp), vIs (.pointer (some ⟨fb, fo + sp * 2, none⟩)), vIs (mvV m), vIs (vi sg), vIs (vi df), vIs (vi am), vIs (tlV t), vIs (.pointer (some ⟨sb, 3, none⟩)), vIs (vi y.s.day), vIs (vi of)]) (fun h k => newer_trans h k) (pickD_stable _ ⟨vIs_st, vIs_st, vIs_st, vIs_st, vIs_st, vIs_st, vIs_st, vIs_st, vIs_st, vIs_st, vIs_st, vIs_st, vIs_st, vIs_st, vIs_st, vIs_st, vIs_st, trivial⟩) (Below.refl _ wr).drew (Below.refl _ _) ?_ ?_)
      · refine ⟨?_, ?_, ?_, ?_, ?_, ?_, ?_, ?_, ?_, ?_, ?_, ?_, ?_, ?_, ?_, ?_, ?_, trivial⟩
        · exact fun a W hG _ hO _ => kM 3 rfl (hO.slot 3 (by kernel_rfl)) rfl hG
        · intro a W hG hR hO hp
          have h6 := hO.slot 6 (by kernel_rfl)
          have c0 := keep_cell t0 hG
          have c1 := keep_cell t1 hG
          have c2 := keep_cell t2 hG
          have c3 := keep_cell t3 hG
          have c4 := keep_cell t4 hG
          have c5 := keep_cell t5 hG
          have c6 := keep_cell t6 hG
          refine kY (v := tlV t) hG rfl ?_
          simp [slotOf] at h6
          simp [execOp, go_sem, h6, c0, c1, c2, c3, c4, c5, c6]
        · exact fun a W hG _ hO _ => kM 1 rfl (hO.slot 1 (by kernel_rfl)) rfl hG
        · exact fun a W hG _ hO _ => kM 10 rfl (hO.slot 10 (by kernel_rfl)) rfl hG
        · intro a W hG hR hO hp
          have h19 : slotOf a 19 = .slice (some ⟨ab, ao, none⟩) n c := hp.1
          have h20 : slotOf a 20 = .int .i64 k := hp.2.1
          refine kY (v := .pointer (some ⟨ab, ao + k, none⟩)) hG rfl ?_
          simp [slotOf] at h19 h20
          simp [execOp, go_sem, h19, h20, hin]
        · intro a W hG hR hO hp
          have h21 : slotOf a 21 = .pointer (some ⟨ab, ao + k, none⟩) := hp.1
          have c0 := keep_cell cx hG
          refine kY (v := .slice (some ⟨fb, fo, none⟩) x.f.length x.c) hG rfl ?_
          simp [slotOf] at h21
          simp [execOp, go_sem, h21, c0]
        · intro a W hG hR hO hp
          have h6 := hO.slot 6 (by kernel_rfl)
          refine kY (v := .pointer (some ⟨tb, 0, none⟩)) hG rfl ?_
          simp [slotOf] at h6
          simp [execOp, go_sem, h6]
        · intro a W hG hR hO hp
          have h23 : slotOf a 23 = .pointer (some ⟨tb, 0, none⟩) := hp.1
          have c0 := keep_cell ts hG
          refine kY (v := .int .i64 sp) hG rfl ?_
          simp [slotOf] at h23
          simp [execOp, go_sem, h23, c0]
        · intro a W hG hR hO hp
          have h22 : slotOf a 22 = .slice (some ⟨fb, fo, none⟩) x.f.length x.c := hp.1
          have h24 : slotOf a 24 = .int .i64 sp := hp.2.1
          refine kY (v := .pointer (some ⟨fb, fo + sp * 2, none⟩)) hG rfl ?_
          simp [slotOf] at h22 h24
          simp [execOp, go_sem, h22, h24, hsf]
        · intro a W hG hR hO hp
          have h25 : slotOf a 25 = .pointer (some ⟨fb, fo + sp * 2, none⟩) := hp.1
          have c0 := keep_cell m0 hG
          have c1 := keep_cell m1 hG
          refine kY (v := mvV m) hG rfl ?_
          simp [slotOf] at h25
          simp [execOp, go_sem, h25, c0, c1]
        · intro a W hG hR hO hp
          have h18 : slotOf a 18 = tlV t := hp.1
          have h26 : slotOf a 26 = mvV m := hp.2.1
          refine wp_enters (f := 23) (args := #[tlV t, mvV m]) ?_ ((HSG.out W).mono ?_)
          · simp [slotOf] at h18 h26
            simp [go_sem, h18, h26]
          · rintro e w' ⟨rfl, hb⟩
            exact ⟨_, rfl, _, rfl, rfl, hb, below_next hG hb⟩
        · intro a W hG hR hO hp
          have h17 : slotOf a 17 = vi r := hp.1
          have h27 : slotOf a 27 = vi sg := hp.2.1
          refine kY (v := vi df) hG rfl ?_
          simp [slotOf] at h17 h27
          simp [execOp, go_sem, h17, h27, hwr]
        · intro a W hG hR hO hp
          have h28 : slotOf a 28 = vi df := hp.1
          refine wp_enters (f := 106) (args := #[vi df]) ?_ ((HAM.out W).mono ?_)
          · simp [slotOf] at h28
            simp [go_sem, h28]
          · rintro e w' ⟨rfl, rfl⟩
            exact ⟨_, rfl, _, rfl, rfl, Below.refl _ _, hG⟩
        · intro a W hG hR hO hp
          have h6 := hO.slot 6 (by kernel_rfl)
          have c0 := keep_cell t0 hG
          have c1 := keep_cell t1 hG
          have c2 := keep_cell t2 hG
          have c3 := keep_cell t3 hG
          have c4 := keep_cell t4 hG
          have c5 := keep_cell t5 hG
          have c6 := keep_cell t6 hG
          refine kY (v := tlV t) hG rfl ?_
          simp [slotOf] at h6
          simp [execOp, go_sem, h6, c0, c1, c2, c3, c4, c5, c6]
        · intro a W hG hR hO hp
          have h4 := hO.slot 4 (by kernel_rfl)
          refine kY (v := .pointer (some ⟨sb, 3, none⟩)) hG rfl ?_
          simp [slotOf] at h4
          simp [execOp, go_sem, h4]
        · intro a W hG hR hO hp
          have h31 : slotOf a 31 = .pointer (some ⟨sb, 3, none⟩) := hp.1
          have c0 := keep_cell x3 hG
          refine kY (v := vi y.s.day) hG rfl ?_
          simp [slotOf] at h31
          simp [execOp, go_sem, h31, c0]
        · intro a W hG hR hO hp
          have h30 : slotOf a 30 = tlV t := hp.1
          have h32 : slotOf a 32 = vi y.s.day := hp.2.1
          refine wp_enters (f := 22) (args := #[tlV t, vi y.s.day]) ?_ ((HOF.out W).mono ?_)
          · simp [slotOf] at h30 h32
            simp [go_sem, h30, h32]
          · rintro e w' ⟨rfl, hb⟩
            exact ⟨_, rfl, _, rfl, rfl, hb, below_next hG hb⟩
      · intro w5 hG hR
        rintro _ rfl _ rfl _ rfl _ rfl _ rfl _ rfl _ rfl _ rfl _ rfl _ rfl _ rfl _ rfl _ rfl _ rfl _ rfl _ rfl _ rfl
        change wpList _ _ _ _ _ _
        simp only [Act.put, List.setIfInBounds_toArray, List.set_cons_zero, List.set_cons_succ, List.drop_succ_cons, List.drop_zero]
        have HW := Lib.hid (And.intro (newer_trans HJ.out.1 hG) (And.intro (HJ.out.2.1.below hG HJ.out.2.1.lt) (HJ.out.2.2.below hG HJ.out.2.2.lt)))
        have HK5 := Lib.hid (And.intro (own_below HK.out.2.1 hG) (newer_trans HK.out.2.2 hG))
        have cx := keep_cell cx hG
        clear hG hR m0 m1 t0 ts t1 t2 t3 t4 t5 t6 x3 hwr HSG HOF HAM
        cases b with
        | false =>
          have hle : ¬ am ≤ of := of_decide_eq_false hbd
          clear hbd
          have HTK := Lib.hid (take_filter_no HXK.out (show p x = false by rw [HP.out]; exact HSB.out))
          clear cx
          go_wp2_with fail
          go_roundw
          case rel => exact ⟨k + 1, q, B, d, HLT.out, by omega, by rw [HTK.out]; exact HK.out.1, rfl, by go_num, by rw [HTK.out]; exact HK5.out.1, HW.out.1, HW.out.2.1, HW.out.2.2, HK5.out.2⟩
          case measure => simp [intOf]; omega
        | true =>
          have hle : am ≤ of := of_decide_eq_true hbd
          clear hbd
          have HTK := Lib.hid (take_filter_yes HXK.out (show p x = true by rw [HP.out]; exact HSB.out))
          have hna := newer_allocH w5 (.cells #[.slice (some ⟨fb, fo, none⟩) x.f.length x.c] 34)
          have HAP : Hid ((w5.alloc (.cells #[.slice (some ⟨fb, fo, none⟩) x.f.length x.c] 34)).ownsRow w1.heap.size 34 1 (.slice B q d) q (((xs.take k).filter p).flatMap flL) ∧ Row flL 1 (w5.alloc (.cells #[.slice (some ⟨fb, fo, none⟩) x.f.length x.c] 34)) (w5.alloc (.cells #[.slice (some ⟨fb, fo, none⟩) x.f.length x.c] 34)).heap.size (some ⟨w5.heap.size, 0, none⟩) [x] ∧ newer w1 (w5.alloc (.cells #[.slice (some ⟨fb, fo, none⟩) x.f.length x.c] 34))) := Lib.hid (by
            have h1 := newer_trans HK5.out.2 hna
            exact ⟨own_below HK5.out.1 hna, row_of_whole (enc := flL) (s := 1) (fun _ => rfl) (Whole.made w5 34 _) (by unfold flL; simp [HEX.out]), h1⟩)
          have HW2 := Lib.hid (And.intro (newer_trans HW.out.1 hna) (And.intro (HW.out.2.1.below hna HW.out.2.1.lt) (HW.out.2.2.below hna HW.out.2.2.lt)))
          have HQ5 := Lib.hid (show q ≤ 5000000 by omega)
          clear hna
          go_wp2_with (at_builtin; go_loud ((refine wpList_plain rfl fun _ hK => wp_append_all (enc := flL) (size := 1) w1.heap.size (.tmp 35) (.tmp 40) 67 34 i0 (.slice none 0 0) 24 Try.underlying67 HI.out.1 HI.out.2.1 HI.out.2.2.1 HI.out.2.2.2 rfl (by omega) (fun _ => rfl) flL_one rfl B q d (((xs.take k).filter p).flatMap flL) rfl HAP.out.1 [x] (some ⟨w5.heap.size, 0, none⟩) 1 rfl HAP.out.2.1 (by have := HQ5.out; unfold maxLen; simp only [List.length_singleton]; omega) (by have := HQ5.out; simp only [List.length_singleton]; omega) HAP.out.2.2.size fun B2 c2 w6 hown hgr hat => hK _ _ ?_); have HE := Lib.hid (And.intro hown (And.intro (below_row HAP.out.2.2 HAP.out.1 hgr (Nat.le_refl _)) (And.intro (newer_trans HB1.out.1 (below_row HAP.out.2.2 HAP.out.1 hgr (Nat.le_refl _))) (And.intro (HW2.out.2.1.grown hgr (fun e => by have h1 := own_ge HAP.out.1 _ e.symm; have h2 := HB1.out.2.1.lt; omega)) (HW2.out.2.2.grown hgr (fun e => by have h1 := own_ge HAP.out.1 _ e.symm; have h2 := HB1.out.2.2.lt; omega)))))); clear hown hgr hat))
          go_roundw
          case rel =>
            refine ⟨k + 1, q + 1, B2, c2, HLT.out, by omega, by rw [HTK.out, List.length_append, HK.out.1]; rfl, rfl, by go_num, ?_, HE.out.2.2.1, HE.out.2.2.2.1, HE.out.2.2.2.2, HE.out.2.1⟩
            have h1 := HE.out.1
            rw [← List.flatMap_append, ← HTK.out] at h1
            exact h1
          case measure => simp [intOf]; omega
    · obtain rfl : k = n := by omega
      have hin : ¬ (k : Int) < k := by omega
      have htk : (xs.take k).filter p = xs.filter p := by rw [HN.out, List.take_length]
      have HQ : Hid (q = (xs.filter p).length ∧ Row flL 1 wr wr.heap.size B (xs.filter p)) := Lib.hid ⟨by rw [← htk]; exact HK.out.1, row_of_own (enc := flL) (size := 1) (by decide) (fun _ => rfl) (by have h := HK.out.2.1; have e := HK.out.1; rw [htk] at h e; rw [e] at h; exact h)⟩
      have hsub : ∀ x ∈ xs.filter p, x ∈ xs := fun x hx => (List.mem_filter.1 hx).1
      have HTR := Lib.hid (turnsR_any y (xs.filter p) B d B0 wr (HOK.out.next HJ.out.1) HO.out.hs HT3.out HQ.out.2 (by have h := HO.out.hin.next HJ.out.1; exact ⟨fun x hx => h.ok x (hsub x hx), fun x hx => h.hi x (hsub x hx), fun x hx => h.lt x (hsub x hx)⟩) (Nat.le_trans (List.length_filter_le _ _) HO.out.hn) (fun x hx => (fields_bd HO.out.hs (HO.out.hf x (hsub x hx))).1) (fun x hx => (fields_bd HO.out.hs (HO.out.hf x (hsub x hx))).2))
      have HLF : Hid ((xs.filter p).map (·.f) = (xs.map (·.f)).filter (seesB y.s t r)) := Lib.hid (by rw [HP.out, List.filter_map]; rfl)
      have hq := HQ.out.1
      rw [← hq] at HTR
      have x0 := HJ.out.2.1.at 0 (v := .slice y.sa y.s.spots.length y.sc) rfl
      have x1 := HJ.out.2.1.at 1 (v := vi y.s.strain) rfl
      have x2 := HJ.out.2.1.at 2 (v := .slice y.ta y.s.tools.length y.tc) rfl
      have x3 := HJ.out.2.1.at 3 (v := vi y.s.day) rfl
      have x4 := HJ.out.2.1.at 4 (v := .slice y.ra y.s.reads.length y.rc) rfl
      clear htk hsub hq
      go_wp2_with fail
      refine (HTR.out).mono ?_
      rintro e w7 ⟨us, UB, ud, rfl, -, hum, hb⟩
      have HZ : Hid ((us.length : Int) = leftC y.s (xs.map (·.f)) t r) := Lib.hid (by
        have h1 := congrArg List.length hum
        rw [List.length_map, HLF.out] at h1
        unfold leftC
        rw [h1])
      have HNZ := Lib.hid (newer_trans HJ.out.1 hb)
      clear hum hb HTR x0 x1 x2 x3 x4
      go_wp2_with fail
      go_ret
      exact ⟨by rw [← HZ.out]; rfl, HNZ.out⟩
set_option maxRecDepth 100000 in
set_option maxHeartbeats 4000000 in
theorem worstR_any (y : Sm) (xs : List Fl) (A : Option Addr) (c B0 : Nat) (t : Tl) (w : World) (hok : SmOk y w) (h3 : y.s.tools.length ≤ 3) (ho : SeeOk y xs A B0 t w) : Calls Try.prog 55 #[smV y, .slice A xs.length c, tlV t] w fun e w' => e = .returned (vi (worstK y.s (xs.map (·.f)) t 841)) ∧ newer w w' := by
  have HOK := Lib.hid hok
  have HT3 := Lib.hid h3
  clear hok h3
  have hnb := newer_trans (newer_allocH w (.cells (smC y) 26)) (newer_allocH (w.alloc (.cells (smC y) 26)) (.cells (tlC t) 43))
  have hsb := (Whole.made w 26 (smC y)).alloc (.cells (tlC t) 43)
  have htb := Whole.made (w.alloc (.cells (smC y) 26)) 43 (tlC t)
  rw [World.size_alloc] at htb
  have HO := Lib.hid ho
  have HB0 := Lib.hid (And.intro hnb (And.intro hsb htb))
  obtain ⟨n, hn⟩ : ∃ n, n = xs.length := ⟨_, rfl⟩
  have hn5 : n ≤ 5000000 := by rw [hn]; exact ho.hn
  rw [← hn]
  have HN := Lib.hid hn
  clear ho hnb hsb htb hn
  go_enter Try.func55, Try.ntmps55
  go_upto_region 1 with fail
  obtain ⟨sb, hsb⟩ : ∃ q, q = w.heap.size := ⟨_, rfl⟩
  rw [← hsb] at HB0 ⊢
  obtain ⟨tb, htb⟩ : ∃ q, q = sb + 1 := ⟨_, rfl⟩
  rw [← htb] at HB0
  try rw [← htb]
  refine genQ (fun X => newer w X ∧ Whole X sb 26 (smC y) ∧ Whole X tb 43 (tlC t)) HB0.out ?_
  clear HB0 hsb htb
  rintro w1 ⟨g1, g2, g3⟩
  have HB1 := Lib.hid (And.intro g1 (And.intro g2 g3))
  clear g1 g2 g3
  go_wp2_with fail
  try go_frame
  go_loopw [7, 8] (fun s7 s8 wr => ∃ k : Nat, k ≤ 841 ∧ s7 = vi (worstK y.s (xs.map (·.f)) t k) ∧ s8 = vi ((k : Int) - 420) ∧ newer w wr ∧ Whole wr sb 26 (smC y) ∧ Whole wr tb 43 (tlC t)) (fun _ s8 _ => (421 - intOf s8).toNat)
  case atStart => exact ⟨0, by decide, rfl, rfl, HB1.out.1, HB1.out.2.1, HB1.out.2.2⟩
  case round =>
    obtain ⟨k, hk, rfl, rfl, hnw, hx, hxt⟩ := hrel
    have HJ := Lib.hid (And.intro hnw (And.intro hx hxt))
    clear hnw hx hxt
    have hws := worstK_succ y.s (xs.map (·.f)) t k
    have hwb := worstK_bd HT3.out (xs.map (·.f)) t k
    obtain ⟨wk, hwk⟩ : ∃ q, q = worstK y.s (xs.map (·.f)) t k := ⟨_, rfl⟩
    rw [← hwk] at hws hwb ⊢
    obtain ⟨r, hr⟩ : ∃ r : Int, r = (k : Int) - 420 := ⟨_, rfl⟩
    rw [← hr] at hws ⊢
    by_cases hlt : k < 841
    · have hr4 : r ≤ 420 := by omega
      have hr5 : -420 ≤ r := by omega
      have HRB := Lib.hid (show -420 ≤ r ∧ r ≤ 420 by omega)
      have HR := Lib.hid (And.intro hr hlt)
      have HLB := Lib.hid (leftC_bd HT3.out (xs.map (·.f)) t r)
      have x0 := HJ.out.2.1.at 0 (v := .slice y.sa y.s.spots.length y.sc) rfl
      have x1 := HJ.out.2.1.at 1 (v := vi y.s.strain) rfl
      have x2 := HJ.out.2.1.at 2 (v := .slice y.ta y.s.tools.length y.tc) rfl
      have x3 := HJ.out.2.1.at 3 (v := vi y.s.day) rfl
      have x4 := HJ.out.2.1.at 4 (v := .slice y.ra y.s.reads.length y.rc) rfl
      have t0 := HJ.out.2.2.at 0 (v := vi t.spot) rfl
      have t1 := HJ.out.2.2.at 1 (v := vi t.a) rfl
      have t2 := HJ.out.2.2.at 2 (v := vi t.b) rfl
      have t3 := HJ.out.2.2.at 3 (v := vi t.turn) rfl
      have t4 := HJ.out.2.2.at 4 (v := vi t.err) rfl
      have t5 := HJ.out.2.2.at 5 (v := vi t.drift) rfl
      have t6 := HJ.out.2.2.at 6 (v := vi t.since) rfl
      clear hwk hr
      have HCM := Lib.hid (comes_any y xs A c B0 t r wr (HO.out.next HJ.out.1) HRB.out)
      rw [← HN.out] at HCM
      obtain ⟨b, hb⟩ : ∃ b, b = xs.any fun x => seesB y.s t r x.f := ⟨_, rfl⟩
      rw [← hb] at HCM
      have hany : (xs.map (·.f)).any (seesB y.s t r) = b := by rw [hb, List.any_map]; rfl
      rw [hany] at hws
      have HWS := Lib.hid hws
      clear hws hb hany
      go_wp2_with fail
      refine (HCM.out).mono ?_
      rintro e w2 ⟨rfl, hb⟩
      have HW2 := Lib.hid (And.intro (newer_trans HJ.out.1 hb) (And.intro (HJ.out.2.1.below hb HJ.out.2.1.lt) (HJ.out.2.2.below hb HJ.out.2.2.lt)))
      clear hb HCM x0 x1 x2 x3 x4 t0 t1 t2 t3 t4 t5 t6
      cases b with
      | false =>
        go_wp2_with fail
        go_roundw
        case rel => exact ⟨k + 1, HR.out.2, by rw [HWS.out]; rfl, by have := HR.out.1; have := HRB.out; go_num, HW2.out.1, HW2.out.2.1, HW2.out.2.2⟩
        case measure => simp [intOf]; have := HRB.out; omega
      | true =>
        have x0 := HW2.out.2.1.at 0 (v := .slice y.sa y.s.spots.length y.sc) rfl
        have x1 := HW2.out.2.1.at 1 (v := vi y.s.strain) rfl
        have x2 := HW2.out.2.1.at 2 (v := .slice y.ta y.s.tools.length y.tc) rfl
        have x3 := HW2.out.2.1.at 3 (v := vi y.s.day) rfl
        have x4 := HW2.out.2.1.at 4 (v := .slice y.ra y.s.reads.length y.rc) rfl
        have t0 := HW2.out.2.2.at 0 (v := vi t.spot) rfl
        have t1 := HW2.out.2.2.at 1 (v := vi t.a) rfl
        have t2 := HW2.out.2.2.at 2 (v := vi t.b) rfl
        have t3 := HW2.out.2.2.at 3 (v := vi t.turn) rfl
        have t4 := HW2.out.2.2.at 4 (v := vi t.err) rfl
        have t5 := HW2.out.2.2.at 5 (v := vi t.drift) rfl
        have t6 := HW2.out.2.2.at 6 (v := vi t.since) rfl
        have HLF := Lib.hid (left_any y xs A c B0 t r w2 (HOK.out.next HW2.out.1) HT3.out (HO.out.next HW2.out.1) HRB.out)
        obtain ⟨lf, hlf⟩ : ∃ q, q = leftC y.s (xs.map (·.f)) t r := ⟨_, rfl⟩
        rw [← HN.out, ← hlf] at HLF
        obtain ⟨q, hq⟩ : ∃ q, q = worstK y.s (xs.map (·.f)) t (k + 1) := ⟨_, rfl⟩
        have hws := HWS.out
        rw [← hlf, if_pos rfl, ← hq] at hws
        have HQ := Lib.hid hq
        have e1 : (if wk < lf then lf else wk) = q := hws.symm
        clear hws hlf hq
        go_wp2_with fail
        refine (HLF.out).mono ?_
        rintro e w3 ⟨rfl, hb⟩
        have HW3 := Lib.hid (And.intro (newer_trans HW2.out.1 hb) (And.intro (HW2.out.2.1.below hb HW2.out.2.1.lt) (HW2.out.2.2.below hb HW2.out.2.2.lt)))
        clear hb HLF x0 x1 x2 x3 x4 t0 t1 t2 t3 t4 t5 t6
        go_wp2_with fail
        go_roundw
        case rel => exact ⟨k + 1, HR.out.2, by rw [← HQ.out], by have := HR.out.1; have := HRB.out; go_num, HW3.out.1, HW3.out.2.1, HW3.out.2.2⟩
        case measure => simp [intOf]; have := HRB.out; omega
    · obtain rfl : k = 841 := by omega
      have hr4 : ¬ r ≤ 420 := by omega
      have HE := Lib.hid hwk
      clear hws
      go_wp2_with fail
      go_ret
      exact ⟨by rw [← HE.out]; rfl, HJ.out.1⟩

end Go.Proofs.Ytpmafnifgegfbaa

namespace Go.Proofs.Ytpmafnifgegfbaa
open Go.RowKit Go.Shelf Go.Deep

theorem sees_in {s : Sd} {t : Tl} {r : Int} {f : List Mv} : seesB s t r f = true ↔ inW s t (fnL f t.spot.toNat) r := by
  unfold seesB inW
  rw [decide_eq_true_eq, amt_le]
  omega
theorem stake_in {s : Sd} {t : Tl} {r : Int} {ks : List (Option Int)} : stakeB s t r ks = true ↔ ∃ m ∈ aliveS s ks t.spot.toNat, inW s t m r := by
  unfold stakeB
  rw [List.any_eq_true]
  exact ⟨fun ⟨m, a, b⟩ => ⟨m, a, of_decide_eq_true b⟩, fun ⟨m, a, b⟩ => ⟨m, a, decide_eq_true b⟩⟩
/-- What is left by a read. -/
theorem leftS_is {s : Sd} (h : SdOk s) {t : Tl} (ht : TlOk s.spots.length s.day t) (r : Int) : turnsR s ((allR s).filter (seesB s t r)) = ((allT s).filter (stakeB s t r)).map (turL s.tools) := by
  have hsp : t.spot.toNat < s.spots.length := by have := ht.spot; omega
  refine pair_ext less_irrefl less_trans (turns_sorted s _) ((turnsN_sorted h).sublist (List.Sublist.map _ List.filter_sublist)) fun y => ?_
  rw [mem_turns, List.mem_map]
  constructor
  · rintro ⟨f, hf, hy⟩
    obtain ⟨hf, hs⟩ := List.mem_filter.1 hf
    obtain ⟨ks, h1, h2, h3⟩ := (mem_lists _ _ _ (by omega)).1 hy
    obtain ⟨h4, h5⟩ := (lists_agree h hf).1 h3
    refine ⟨ks, List.mem_filter.2 ⟨(mem_out0 h).2 ⟨h1, h5, (ok_iff (by have := h.spots; omega)).2 ⟨_, h4⟩⟩, stake_in.2 ⟨_, (mem_alive hsp).2 ⟨_, h4, rfl⟩, sees_in.1 hs⟩⟩, ?_⟩
    rw [h2, List.nil_append, List.drop_zero]
  · rintro ⟨ks, hk, rfl⟩
    obtain ⟨hk, hst⟩ := List.mem_filter.1 hk
    obtain ⟨h1, h2, h3⟩ := (mem_out0 h).1 hk
    obtain ⟨m, hm, hin⟩ := stake_in.1 hst
    obtain ⟨g, hg, rfl⟩ := (mem_alive hsp).1 hm
    obtain ⟨l, hl, he⟩ := listOf h (agree_less h.toolIn hg fun j t _ => .inr (free_none s j))
    have hg2 : Agree s ks (fnL l) := ⟨fun i hi => by rw [he i hi]; exact hg.mem i hi, fun i hi => by rw [he i (by omega), he (i + 1) hi]; exact hg.rel i hi⟩
    refine ⟨l, List.mem_filter.2 ⟨hl, sees_in.2 (by rw [he _ hsp]; exact hin)⟩, (mem_lists _ _ _ (by omega)).2 ⟨ks, h1, by rw [List.nil_append, List.drop_zero], (lists_agree h hl).2 ⟨hg2, h2⟩⟩⟩
theorem left_cnt {s : Sd} (h : SdOk s) {t : Tl} (ht : TlOk s.spots.length s.day t) (r : Int) : leftC s (allR s) t r = cntP s t (allT s) r := by
  unfold leftC cntP
  rw [leftS_is h ht, List.length_map]
theorem left_none {s : Sd} {all : List (List Mv)} {t : Tl} {r : Int} (h : all.any (seesB s t r) = false) : leftC s all t r = 0 := by
  have e : all.filter (seesB s t r) = [] := List.filter_eq_nil_iff.2 fun f hf hs => by
    rw [List.any_eq_false] at h
    exact h f hf hs
  unfold leftC
  rw [e]
  rfl
theorem sees_bd {s : Sd} (h : SdOk s) {t : Tl} (ht : TlOk s.spots.length s.day t) {r : Int} {f : List Mv} (hf : f ∈ allR s) (hs : seesB s t r f = true) : -410 ≤ r ∧ r ≤ 410 := by
  have h1 := sees_in.1 hs
  unfold inW at h1
  have hb := (isField_iff.1 (Bool.and_eq_true _ _ ▸ mem_all.1 hf : isFieldB s f = true ∧ waysB s f = true).1).2.bd h (i := t.spot.toNat) (by have := ht.spot; omega)
  have h2 := sight_bd ht hb.1 hb.2
  have h3 := off_bd ht h.day.1 h.day.2
  omega
theorem worst_inv (s : Sd) (all : List (List Mv)) (t : Tl) : ∀ k : Nat, (∀ r : Int, -420 ≤ r → r < (k : Int) - 420 → leftC s all t r ≤ worstK s all t k) ∧ (worstK s all t k = 0 ∨ ∃ r, leftC s all t r = worstK s all t k)
  | 0 => ⟨fun r h1 h2 => by omega, .inl rfl⟩
  | k + 1 => by
    obtain ⟨h1, h2⟩ := worst_inv s all t k
    rw [worstK_succ]
    obtain ⟨r0, hr0⟩ : ∃ q : Int, q = (k : Int) - 420 := ⟨_, rfl⟩
    rw [← hr0] at h1 ⊢
    cases ha : all.any (seesB s t r0) with
    | false =>
      rw [if_neg (by decide)]
      refine ⟨fun r ha1 ha2 => ?_, h2⟩
      by_cases e : r = r0
      · rw [e, left_none ha]
        rcases h2 with h2 | ⟨q, h2⟩
        · omega
        · rw [← h2]; unfold leftC; omega
      · exact h1 r ha1 (by omega)
    | true =>
      rw [if_pos rfl]
      by_cases hlt : worstK s all t k < leftC s all t r0
      · rw [if_pos hlt]
        refine ⟨fun r ha1 ha2 => ?_, .inr ⟨r0, rfl⟩⟩
        by_cases e : r = r0
        · rw [e]; exact Int.le_refl _
        · have := h1 r ha1 (by omega); omega
      · rw [if_neg hlt]
        refine ⟨fun r ha1 ha2 => ?_, h2⟩
        by_cases e : r = r0
        · rw [e]; omega
        · exact h1 r ha1 (by omega)
/-- The worst of a stake. -/
def worstS (s : Sd) (t : Tl) : Int := worstK s (allR s) t 841
theorem worst_top {s : Sd} (h : SdOk s) {t : Tl} (ht : TlOk s.spots.length s.day t) : Top (worstS s t) (cntP s t (allT s)) := by
  obtain ⟨h1, h2⟩ := worst_inv s (allR s) t 841
  refine ⟨fun r => ?_, ?_⟩
  · rw [← left_cnt h ht]
    cases ha : (allR s).any (seesB s t r) with
    | false =>
      rw [left_none ha]
      show (0 : Int) ≤ worstK s (allR s) t 841
      rcases h2 with h2 | ⟨q, h2⟩
      · omega
      · rw [← h2]; unfold leftC; omega
    | true =>
      obtain ⟨f, hf, hs⟩ := List.any_eq_true.1 ha
      have hb := sees_bd h ht hf hs
      exact h1 r (by omega) (by omega)
  · rcases h2 with h2 | ⟨q, h2⟩
    · exact .inl h2
    · exact .inr ⟨q, by rw [← left_cnt h ht]; exact h2⟩
theorem cnt_nat (s : Sd) (t : Tl) (Ks : List (List (Option Int))) : ∀ r, 0 ≤ cntP s t Ks r := fun r => (cnt_bd s t Ks r).1
/-- The program's worst of a stake is the reference's. -/
theorem worst_any (y : Sm) (t : Tl) (ls : List Nat) (A : Option Addr) (c : Nat) (w : World) (hs : SdOk y.s) (ht : TlOk y.s.spots.length y.s.day t) (hl : Row ptL 1 w w.heap.size A ls) (hln : ls.length = (allT y.s).length) (h60 : ls.length ≤ 60)
    (hlk : ∀ (i : Nat) (k : List (Option Int)) (l : Nat), (allT y.s)[i]? = some k → ls[i]? = some l → ∃ B ms A c, LookOk y k B l ms A c w) :
    Calls Try.prog 84 #[smV y, tlV t, .slice A ls.length c] w fun e w' => e = .returned (vi (worstS y.s t)) ∧ newer w w' := by
  refine (worstP_any y t (allT y.s) ls A c w hs ht hl hln h60 hlk).mono ?_
  rintro e w' ⟨W, rfl, h1, h2⟩
  exact ⟨by rw [h1.uniq (worst_top hs ht) (cnt_nat _ _ _)], h2⟩
theorem worst_bd {s : Sd} (h : SdOk s) {t : Tl} (ht : TlOk s.spots.length s.day t) : 0 ≤ worstS s t ∧ worstS s t ≤ (allT s).length := by
  have hT := worst_top h ht
  refine ⟨hT.nat (cnt_nat _ _ _), ?_⟩
  rcases hT.2 with e | ⟨r, e⟩
  · omega
  · rw [← e]; exact (cnt_bd _ _ _ _).2

end Go.Proofs.Ytpmafnifgegfbaa

namespace Go.Proofs.Ytpmafnifgegfbaa
open Go.RowKit Go.Shelf Go.Deep

/-- May a tool be a stake? -/
def stkB (s : Sd) (t : Tl) : Bool := tlB s.spots.length s.day t && decide (t.turn = 0)
set_option maxRecDepth 100000 in
set_option maxHeartbeats 2000000 in
theorem stk_any (y : Sm) (t : Tl) (sb : Nat) (w : World) (hb : Whole w sb 40 (smC y)) (h6 : y.s.spots.length ≤ 1000000) : Calls Try.prog 82 #[tlV t, .pointer (some ⟨sb, 0, none⟩)] w fun e w' => e = .returned (.bool (stkB y.s t)) ∧ Below w.heap.size w w' := by
  have hn := newer_allocH w (.cells (tlC t) 112)
  have hx := hb.alloc (.cells (tlC t) 112)
  have ht := Whole.made w 112 (tlC t)
  have HN := Lib.hid (And.intro hn ht)
  have x0 := hx.at 0 (v := .slice y.sa y.s.spots.length y.sc) rfl
  have x1 := hx.at 1 (v := vi y.s.strain) rfl
  have x2 := hx.at 2 (v := .slice y.ta y.s.tools.length y.tc) rfl
  have x3 := hx.at 3 (v := vi y.s.day) rfl
  have x4 := hx.at 4 (v := .slice y.ra y.s.reads.length y.rc) rfl
  have t0 := ht.at 0 (v := vi t.spot) rfl
  have t1 := ht.at 1 (v := vi t.a) rfl
  have t2 := ht.at 2 (v := vi t.b) rfl
  have t3 := ht.at 3 (v := vi t.turn) rfl
  have t4 := ht.at 4 (v := vi t.err) rfl
  have t5 := ht.at 5 (v := vi t.drift) rfl
  have t6 := ht.at 6 (v := vi t.since) rfl
  have HC := Lib.hid (tool_any y t (w.alloc (.cells (tlC t) 112)) h6)
  unfold stkB
  obtain ⟨b, hbb⟩ : ∃ b, b = tlB y.s.spots.length y.s.day t := ⟨_, rfl⟩
  rw [← hbb] at HC ⊢
  clear hn hx ht hb hbb h6
  go_enter Try.func82, Try.ntmps82
  go_wp2_with fail
  refine (HC.out).mono ?_
  rintro e w1 ⟨rfl, hb⟩
  have HN1 := Lib.hid (newer_trans HN.out.1 hb)
  have ht1 := HN.out.2.below hb HN.out.2.lt
  clear hb HC x0 x1 x2 x3 x4 t0 t1 t2 t3 t4 t5 t6
  have t3 := ht1.at 3 (v := vi t.turn) rfl
  clear ht1
  cases b with
  | false =>
    clear t3
    go_wp2_with fail
    go_ret
    exact ⟨rfl, HN1.out⟩
  | true =>
    obtain ⟨T, hT⟩ : ∃ q, q = t.turn := ⟨_, rfl⟩
    rw [← hT] at t3
    have HTE := Lib.hid hT
    clear hT
    by_cases h0 : T = 0
    · subst h0
      go_wp2_with fail
      go_ret
      exact ⟨by rw [← HTE.out]; rfl, HN1.out⟩
    · have h1 : (T == 0) = false := by simpa using h0
      have HD : Hid (decide (t.turn = 0) = false) := Lib.hid (decide_eq_false fun h => h0 (HTE.out.trans h))
      go_wp2_with fail
      go_ret
      exact ⟨by rw [HD.out]; rfl, HN1.out⟩
set_option maxHeartbeats 400000 in
theorem notStk_any (x : Tl) (rb sb : Nat) (b : Bool) (w : World) (hr : w.cell? ⟨rb, 0, none⟩ = some (.func (.func 82) #[] #[.pointer (some ⟨sb, 0, none⟩)]))
    (hf : ∀ W, Below w.heap.size w W → Calls Try.prog 82 #[tlV x, .pointer (some ⟨sb, 0, none⟩)] W fun e w' => e = .returned (.bool b) ∧ Below W.heap.size W w') :
    Calls Try.prog 115 #[tlV x, .pointer (some ⟨rb, 0, none⟩)] w fun e w' => e = .returned (.bool (!b)) ∧ Below w.heap.size w w' := by
  have HF := Lib.hid hf
  have hlt := World.block_lt_of_cell? w _ hr
  dsimp only at hlt
  clear hf
  go_enter Try.func115, Try.ntmps115
  go_wp2_with (go_at_call 82; refine (HF.out _ ((Below.refl _ _).alloc (Nat.le_refl _) _)).mono ?_; rintro e w' ⟨rfl, hb⟩)
  go_ret
  exact ⟨rfl, below_step ((Below.refl _ _).alloc (Nat.le_refl _) _) hb (by simp)⟩
set_option maxHeartbeats 400000 in
theorem allStk_any (y : Sm) (l : List Tl) (cp sb : Nat) (A : Option Addr) (w : World) (hb : Whole w sb 40 (smC y)) (h6 : y.s.spots.length ≤ 1000000) (hn : l.length ≤ 1000) (hrow : Row tlL 7 w w.heap.size A l) :
    Calls Try.prog 81 #[.slice A l.length cp, .func (.func 82) #[] #[.pointer (some ⟨sb, 0, none⟩)]] w fun e w' => e = .returned (.bool (l.all (stkB y.s))) ∧ Below w.heap.size w w' := by
  have hna := newer_allocH w (.cells #[.func (.func 82) #[] #[.pointer (some ⟨sb, 0, none⟩)]] 151)
  have hX := containsTl_any l (fun c => !stkB y.s c) cp w.heap.size A (w.alloc (.cells #[.func (.func 82) #[] #[.pointer (some ⟨sb, 0, none⟩)]] 151)) hn (hrow_ok hrow _) (fun c hc W hW => notStk_any c w.heap.size sb (stkB y.s c) W (keep_cell (Whole.at (Whole.made w 151 #[.func (.func 82) #[] #[.pointer (some ⟨sb, 0, none⟩)]]) 0 rfl) hW) fun W' hW' => stk_any y c sb W' (hb.below (newer_trans hna (newer_trans hW hW')) hb.lt) h6)
  have HX := Lib.hid hX
  clear hX hna
  go_enter Try.func81, Try.ntmps81
  go_wp2_with (go_at_call 114; refine (HX.out).mono ?_; rintro e w' ⟨rfl, hb2⟩)
  go_ret
  exact ⟨ret_bool (idx_all (stkB y.s) l), below_next ((Below.refl _ _).alloc (Nat.le_refl _) _) hb2⟩
/-- The error of stakes. -/
def stakeE (s : Sd) (ts : List Tl) : Int := if errN s = 0 then (if inB ts.length 1 8 = true then (if ts.all (stkB s) = true then 0 else 1) else 2) else errN s
/-- The best of the first stakes, and its worst. -/
def bestK (s : Sd) (ts : List Tl) : Nat → Int × Int
  | 0 => (0, 0)
  | k + 1 => match ts[k]? with
    | some t => if k = 0 ∨ worstS s t < (bestK s ts k).2 then ((k : Int), worstS s t) else bestK s ts k
    | none => bestK s ts k
theorem bestK_succ {s : Sd} {ts : List Tl} {k : Nat} {t : Tl} (h : ts[k]? = some t) : bestK s ts (k + 1) = if k = 0 ∨ worstS s t < (bestK s ts k).2 then ((k : Int), worstS s t) else bestK s ts k := by rw [bestK, h]
def bestE (s : Sd) (ts : List Tl) : Int := if stakeE s ts = 0 then posE (allT s) else stakeE s ts
def bestP (s : Sd) (ts : List Tl) : Int × Int := if bestE s ts = 0 then bestK s ts ts.length else (0, 0)
theorem pt_flat : ∀ ls : List Nat, ls.flatMap ptL = ls.map ptV
  | [] => rfl
  | l :: ls => by rw [List.flatMap_cons, List.map_cons, pt_flat ls]; rfl
set_option maxRecDepth 100000 in
set_option maxHeartbeats 4000000 in
theorem best_err (y : Sm) (ts : List Tl) (A : Option Addr) (c : Nat) (w : World) (hok : SmOk y w) (few : SmFew y) (he : errN y.s ≠ 0) : Calls Try.prog 53 #[smV y, .slice A ts.length c] w fun e w' => e = .returned (.tuple #[vi 0, vi 0, vi (errN y.s)]) ∧ newer w w' := by
  have hnw := newer_allocH w (.cells (smC y) 40)
  have HC := Lib.hid (check_any y _ (hok.next hnw) few)
  have HN := Lib.hid hnw
  have HOK := Lib.hid hok
  have hbx := Whole.made w 40 (smC y)
  have x0 := hbx.at 0 (v := .slice y.sa y.s.spots.length y.sc) rfl
  have x1 := hbx.at 1 (v := vi y.s.strain) rfl
  have x2 := hbx.at 2 (v := .slice y.ta y.s.tools.length y.tc) rfl
  have x3 := hbx.at 3 (v := vi y.s.day) rfl
  have x4 := hbx.at 4 (v := .slice y.ra y.s.reads.length y.rc) rfl
  have HBX := Lib.hid hbx
  clear hnw hok few hbx
  obtain ⟨p, hp⟩ : ∃ q, q = errN y.s := ⟨_, rfl⟩
  rw [← hp] at HC he ⊢
  clear hp
  go_enter Try.func53, Try.ntmps53
  go_wp2_with fail
  refine (HC.out).mono ?_
  rintro e w1 ⟨rfl, hb⟩
  have HE := Lib.hid (newer_trans HN.out hb)
  clear hb HC x0 x1 x2 x3 x4
  go_wp2_with fail
  go_ret3
  exact ⟨rfl, HE.out⟩
set_option maxRecDepth 100000 in
set_option maxHeartbeats 4000000 in
theorem best_few (y : Sm) (ts : List Tl) (A : Option Addr) (c : Nat) (w : World) (hok : SmOk y w) (few : SmFew y) (he : errN y.s = 0) (hn : inB ts.length 1 8 = false) : Calls Try.prog 53 #[smV y, .slice A ts.length c] w fun e w' => e = .returned (.tuple #[vi 0, vi 0, vi 2]) ∧ newer w w' := by
  have hnw := newer_allocH w (.cells (smC y) 40)
  have HC := Lib.hid (check_any y _ (hok.next hnw) few)
  have HN := Lib.hid hnw
  have HOK := Lib.hid hok
  have hbx := Whole.made w 40 (smC y)
  have x0 := hbx.at 0 (v := .slice y.sa y.s.spots.length y.sc) rfl
  have x1 := hbx.at 1 (v := vi y.s.strain) rfl
  have x2 := hbx.at 2 (v := .slice y.ta y.s.tools.length y.tc) rfl
  have x3 := hbx.at 3 (v := vi y.s.day) rfl
  have x4 := hbx.at 4 (v := .slice y.ra y.s.reads.length y.rc) rfl
  have HBX := Lib.hid hbx
  clear hnw hok few hbx
  rw [he] at HC
  have HS := Lib.hid (err_iff.1 he)
  clear he
  go_enter Try.func53, Try.ntmps53
  go_wp2_with fail
  refine (HC.out).mono ?_
  rintro e w1 ⟨rfl, hb⟩
  have HE := Lib.hid (newer_trans HN.out hb)
  have HX1 := Lib.hid (HBX.out.below hb HBX.out.lt)
  clear hb HC x0 x1 x2 x3 x4
  go_wp2_with fail
  refine (within_any (ts.length : Int) 1 8 w1).mono ?_
  rintro e w2 ⟨rfl, hw2⟩
  subst hw2
  rw [hn]
  go_wp2_with fail
  go_ret3
  exact ⟨rfl, HE.out⟩
set_option maxRecDepth 100000 in
set_option maxHeartbeats 4000000 in
theorem best_arg (y : Sm) (ts : List Tl) (A : Option Addr) (c : Nat) (w : World) (hok : SmOk y w) (few : SmFew y) (hts : Row tlL 7 w w.heap.size A ts) (he : errN y.s = 0) (hn : inB ts.length 1 8 = true) (hal : ts.all (stkB y.s) = false) : Calls Try.prog 53 #[smV y, .slice A ts.length c] w fun e w' => e = .returned (.tuple #[vi 0, vi 0, vi 1]) ∧ newer w w' := by
  have hnw := newer_allocH w (.cells (smC y) 40)
  have HC := Lib.hid (check_any y _ (hok.next hnw) few)
  have HN := Lib.hid hnw
  have HOK := Lib.hid hok
  have hbx := Whole.made w 40 (smC y)
  have x0 := hbx.at 0 (v := .slice y.sa y.s.spots.length y.sc) rfl
  have x1 := hbx.at 1 (v := vi y.s.strain) rfl
  have x2 := hbx.at 2 (v := .slice y.ta y.s.tools.length y.tc) rfl
  have x3 := hbx.at 3 (v := vi y.s.day) rfl
  have x4 := hbx.at 4 (v := .slice y.ra y.s.reads.length y.rc) rfl
  have HBX := Lib.hid hbx
  clear hnw hok few hbx
  have HTS := Lib.hid hts
  clear hts
  rw [he] at HC
  have HS := Lib.hid (err_iff.1 he)
  clear he
  go_enter Try.func53, Try.ntmps53
  go_wp2_with fail
  refine (HC.out).mono ?_
  rintro e w1 ⟨rfl, hb⟩
  have HE := Lib.hid (newer_trans HN.out hb)
  have HX1 := Lib.hid (HBX.out.below hb HBX.out.lt)
  clear hb HC x0 x1 x2 x3 x4
  go_wp2_with fail
  refine (within_any (ts.length : Int) 1 8 w1).mono ?_
  rintro e w2 ⟨rfl, hw2⟩
  subst hw2
  have HAL := Lib.hid (allStk_any y ts c w.heap.size A w1 HX1.out (by have := HS.out.spots; omega) (by unfold inB at hn; simp at hn; omega) ((HTS.out.below HE.out).more HE.out.size))
  rw [hn]
  have HNB := Lib.hid hn
  clear hn
  rw [hal] at HAL
  go_wp2_with fail
  refine (HAL.out).mono ?_
  rintro e w3 ⟨rfl, hb⟩
  have HE3 := Lib.hid (And.intro (newer_trans HE.out hb) (HX1.out.below hb HX1.out.lt))
  clear hb HAL hal
  go_wp2_with fail
  go_ret3
  exact ⟨rfl, HE3.out.1⟩
set_option maxRecDepth 100000 in
set_option maxHeartbeats 4000000 in
theorem best_pos (y : Sm) (ts : List Tl) (A : Option Addr) (c : Nat) (w : World) (hok : SmOk y w) (few : SmFew y) (hts : Row tlL 7 w w.heap.size A ts) (he : errN y.s = 0) (hn : inB ts.length 1 8 = true) (hal : ts.all (stkB y.s) = true) (hp : posE (allT y.s) ≠ 0) : Calls Try.prog 53 #[smV y, .slice A ts.length c] w fun e w' => e = .returned (.tuple #[vi 0, vi 0, vi (posE (allT y.s))]) ∧ newer w w' := by
  have hnw := newer_allocH w (.cells (smC y) 40)
  have HC := Lib.hid (check_any y _ (hok.next hnw) few)
  have HN := Lib.hid hnw
  have HOK := Lib.hid hok
  have hbx := Whole.made w 40 (smC y)
  have x0 := hbx.at 0 (v := .slice y.sa y.s.spots.length y.sc) rfl
  have x1 := hbx.at 1 (v := vi y.s.strain) rfl
  have x2 := hbx.at 2 (v := .slice y.ta y.s.tools.length y.tc) rfl
  have x3 := hbx.at 3 (v := vi y.s.day) rfl
  have x4 := hbx.at 4 (v := .slice y.ra y.s.reads.length y.rc) rfl
  have HBX := Lib.hid hbx
  clear hnw hok few hbx
  have HP := Lib.hid hp
  obtain ⟨p, hpp⟩ : ∃ q, q = posE (allT y.s) := ⟨_, rfl⟩
  rw [← hpp] at hp ⊢
  have HPP := Lib.hid hpp
  clear hpp
  have HTS := Lib.hid hts
  clear hts
  rw [he] at HC
  have HS := Lib.hid (err_iff.1 he)
  clear he
  go_enter Try.func53, Try.ntmps53
  go_wp2_with fail
  refine (HC.out).mono ?_
  rintro e w1 ⟨rfl, hb⟩
  have HE := Lib.hid (newer_trans HN.out hb)
  have HX1 := Lib.hid (HBX.out.below hb HBX.out.lt)
  clear hb HC x0 x1 x2 x3 x4
  go_wp2_with fail
  refine (within_any (ts.length : Int) 1 8 w1).mono ?_
  rintro e w2 ⟨rfl, hw2⟩
  subst hw2
  have HAL := Lib.hid (allStk_any y ts c w.heap.size A w1 HX1.out (by have := HS.out.spots; omega) (by unfold inB at hn; simp at hn; omega) ((HTS.out.below HE.out).more HE.out.size))
  rw [hn]
  have HNB := Lib.hid hn
  clear hn
  rw [hal] at HAL
  go_wp2_with fail
  refine (HAL.out).mono ?_
  rintro e w3 ⟨rfl, hb⟩
  have HE3 := Lib.hid (And.intro (newer_trans HE.out hb) (HX1.out.below hb HX1.out.lt))
  clear hb HAL hal
  have x0 := HE3.out.2.at 0 (v := .slice y.sa y.s.spots.length y.sc) rfl
  have x1 := HE3.out.2.at 1 (v := vi y.s.strain) rfl
  have x2 := HE3.out.2.at 2 (v := .slice y.ta y.s.tools.length y.tc) rfl
  have x3 := HE3.out.2.at 3 (v := vi y.s.day) rfl
  have x4 := HE3.out.2.at 4 (v := .slice y.ra y.s.reads.length y.rc) rfl
  have HL := Lib.hid (possible_bad y w3 (HOK.out.next HE3.out.1) HS.out HP.out)
  rw [← HPP.out] at HL
  go_wp2_with fail
  refine (HL.out).mono ?_
  rintro e w4 ⟨rfl, hb⟩
  have HE4 := Lib.hid (newer_trans HE3.out.1 hb)
  clear hb HL x0 x1 x2 x3 x4
  go_wp2_with fail
  go_ret3
  exact ⟨rfl, HE4.out⟩
set_option maxRecDepth 100000 in
set_option maxHeartbeats 4000000 in
theorem best_ok (y : Sm) (ts : List Tl) (A : Option Addr) (c : Nat) (w : World) (hok : SmOk y w) (few : SmFew y) (hts : Row tlL 7 w w.heap.size A ts) (he : errN y.s = 0) (hn : inB ts.length 1 8 = true) (hal : ts.all (stkB y.s) = true) (hp : posE (allT y.s) = 0) : Calls Try.prog 53 #[smV y, .slice A ts.length c] w fun e w' => e = .returned (.tuple #[vi (bestK y.s ts ts.length).1, vi (bestK y.s ts ts.length).2, vi 0]) ∧ newer w w' := by
  have hnw := newer_allocH w (.cells (smC y) 40)
  have HC := Lib.hid (check_any y _ (hok.next hnw) few)
  have HN := Lib.hid hnw
  have HOK := Lib.hid hok
  have hbx := Whole.made w 40 (smC y)
  have x0 := hbx.at 0 (v := .slice y.sa y.s.spots.length y.sc) rfl
  have x1 := hbx.at 1 (v := vi y.s.strain) rfl
  have x2 := hbx.at 2 (v := .slice y.ta y.s.tools.length y.tc) rfl
  have x3 := hbx.at 3 (v := vi y.s.day) rfl
  have x4 := hbx.at 4 (v := .slice y.ra y.s.reads.length y.rc) rfl
  have HBX := Lib.hid hbx
  clear hnw hok few hbx
  have HP := Lib.hid hp
  have HTK : Hid (∀ (k : Nat) (t : Tl), ts[k]? = some t → TlOk y.s.spots.length y.s.day t) := Lib.hid (fun k t hk => by
    have h := List.all_eq_true.1 hal t (List.mem_of_getElem? hk)
    unfold stkB at h
    rw [Bool.and_eq_true] at h
    exact tlB_iff.1 h.1)
  have HN8 : Hid (1 ≤ ts.length ∧ ts.length ≤ 8) := Lib.hid (by unfold inB at hn; simp at hn; omega)
  clear hp
  have HTS := Lib.hid hts
  clear hts
  rw [he] at HC
  have HS := Lib.hid (err_iff.1 he)
  clear he
  go_enter Try.func53, Try.ntmps53
  go_wp2_with fail
  refine (HC.out).mono ?_
  rintro e w1 ⟨rfl, hb⟩
  have HE := Lib.hid (newer_trans HN.out hb)
  have HX1 := Lib.hid (HBX.out.below hb HBX.out.lt)
  clear hb HC x0 x1 x2 x3 x4
  go_wp2_with fail
  refine (within_any (ts.length : Int) 1 8 w1).mono ?_
  rintro e w2 ⟨rfl, hw2⟩
  subst hw2
  have HAL := Lib.hid (allStk_any y ts c w.heap.size A w1 HX1.out (by have := HS.out.spots; omega) (by unfold inB at hn; simp at hn; omega) ((HTS.out.below HE.out).more HE.out.size))
  rw [hn]
  have HNB := Lib.hid hn
  clear hn
  rw [hal] at HAL
  go_wp2_with fail
  refine (HAL.out).mono ?_
  rintro e w3 ⟨rfl, hb⟩
  have HE3 := Lib.hid (And.intro (newer_trans HE.out hb) (HX1.out.below hb HX1.out.lt))
  clear hb HAL hal
  have x0 := HE3.out.2.at 0 (v := .slice y.sa y.s.spots.length y.sc) rfl
  have x1 := HE3.out.2.at 1 (v := vi y.s.strain) rfl
  have x2 := HE3.out.2.at 2 (v := .slice y.ta y.s.tools.length y.tc) rfl
  have x3 := HE3.out.2.at 3 (v := vi y.s.day) rfl
  have x4 := HE3.out.2.at 4 (v := .slice y.ra y.s.reads.length y.rc) rfl
  have HL := Lib.hid (possible_ok y w3 (HOK.out.next HE3.out.1) HS.out HP.out)
  go_wp2_with fail
  refine (HL.out).mono ?_
  rintro e w4 ⟨xs, ls, A1, c1, A2, c2, rfl, hb, hfo⟩
  have HE4 := Lib.hid (And.intro (newer_trans HE3.out.1 hb) (HE3.out.2.below hb HE3.out.2.lt))
  have hT := List.take_of_length_le (posE_ok HP.out).1
  have HLL : Hid (ls.length = (allT y.s).length ∧ ls.length ≤ 60) := Lib.hid (by have h1 := hfo.ll; rw [hT] at h1; have h2 := (posE_ok HP.out).1; omega)
  have HLR : Hid (Row ptL 1 w4 w4.heap.size A2 ls) := Lib.hid (row_of_own (enc := ptL) (size := 1) (by decide) (fun _ => rfl) (by have h := hfo.r2; rw [← pt_flat] at h; exact h))
  have HLK : Hid (∀ (i : Nat) (k : List (Option Int)) (l : Nat), (allT y.s)[i]? = some k → ls[i]? = some l → ∃ B ms A c, LookOk y k B l ms A c w4) := Lib.hid (fun i k l h1 h2 => by
    obtain ⟨ms, A, c, h⟩ := hfo.lk i k l (by rw [hT]; exact h1) h2
    exact ⟨_, ms, A, c, h⟩)
  have HWO : Hid (∀ (k : Nat) (t : Tl) (W : World), ts[k]? = some t → newer w4 W → Calls Try.prog 84 #[smV y, tlV t, .slice A2 ls.length c2] W fun e w' => e = .returned (vi (worstS y.s t)) ∧ newer W w') := Lib.hid (fun k t W hk hW => worst_any y t ls A2 c2 W HS.out (HTK.out k t hk) ((HLR.out.below hW).more hW.size) HLL.out.1 HLL.out.2 (fun i k l h1 h2 => by
    obtain ⟨B, ms, A, c, h⟩ := HLK.out i k l h1 h2
    exact ⟨B, ms, A, c, h.next hW⟩))
  clear hb hfo hT HL HLR HLK x0 x1 x2 x3 x4
  obtain ⟨n, hn⟩ : ∃ n, n = ts.length := ⟨_, rfl⟩
  have hn8 : n ≤ 8 := by rw [hn]; exact HN8.out.2
  rw [← hn]
  have HNN := Lib.hid hn
  clear hn
  go_wp2_with fail
  try go_frame
  go_loopw [4, 5, 39] (fun s4 s5 s39 wr => ∃ k : Nat, k ≤ n ∧ s4 = vi (bestK y.s ts k).1 ∧ s5 = vi (bestK y.s ts k).2 ∧ s39 = vi k ∧ newer w4 wr) (fun _ _ s39 _ => n - (intOf s39).toNat)
  case atStart => exact ⟨0, Nat.zero_le _, rfl, rfl, rfl, newer_refl _⟩
  case round =>
    obtain ⟨k, hk, rfl, rfl, rfl, hnw⟩ := hrel
    have HW := Lib.hid hnw
    obtain ⟨b1, hb1⟩ : ∃ q, q = (bestK y.s ts k).1 := ⟨_, rfl⟩
    obtain ⟨b2, hb2⟩ : ∃ q, q = (bestK y.s ts k).2 := ⟨_, rfl⟩
    rw [← hb1, ← hb2]
    have HB := Lib.hid (And.intro hb1 hb2)
    clear hb1 hb2
    by_cases hlt : k < n
    · have hkn : (k : Int) < n := by omega
      obtain ⟨t, htk⟩ : ∃ t, ts[k]? = some t := ⟨_, List.getElem?_eq_getElem (by rw [← HNN.out]; exact hlt)⟩
      obtain ⟨tb, tof, rfl, -, t0, t1, t2, t3, t4, t5, t6⟩ := row7 (HTS.out.below (newer_trans HE4.out.1 hnw)) htk
      have HTT := Lib.hid htk
      have HLT := Lib.hid hlt
      clear hnw htk
      go_upto_region 14 with fail
      obtain ⟨gb, hgb⟩ : ∃ q, q = wr.heap.size := ⟨_, rfl⟩
      try rw [← hgb]
      refine genQ (fun X => newer wr X ∧ Whole X gb 112 (tlC t)) ⟨newer_allocH _ _, by rw [hgb]; exact Whole.made _ _ _⟩ ?_
      clear hgb t0 t1 t2 t3 t4 t5 t6
      rintro w5 ⟨hn5, ht5⟩
      have H5 := Lib.hid (newer_trans HW.out hn5)
      have t0 := ht5.at 0 (v := vi t.spot) rfl
      have t1 := ht5.at 1 (v := vi t.a) rfl
      have t2 := ht5.at 2 (v := vi t.b) rfl
      have t3 := ht5.at 3 (v := vi t.turn) rfl
      have t4 := ht5.at 4 (v := vi t.err) rfl
      have t5 := ht5.at 5 (v := vi t.drift) rfl
      have t6 := ht5.at 6 (v := vi t.since) rfl
      have hx5 := HE4.out.2.below H5.out HE4.out.2.lt
      have x0 := hx5.at 0 (v := .slice y.sa y.s.spots.length y.sc) rfl
      have x1 := hx5.at 1 (v := vi y.s.strain) rfl
      have x2 := hx5.at 2 (v := .slice y.ta y.s.tools.length y.tc) rfl
      have x3 := hx5.at 3 (v := vi y.s.day) rfl
      have x4 := hx5.at 4 (v := .slice y.ra y.s.reads.length y.rc) rfl
      clear hx5
      have HWC := Lib.hid (HWO.out k t w5 HTT.out H5.out)
      have hbs := bestK_succ (s := y.s) HTT.out
      obtain ⟨wk, hwk⟩ : ∃ q, q = worstS y.s t := ⟨_, rfl⟩
      rw [← hwk] at HWC hbs
      rw [← HB.out.2] at hbs
      have HBS := Lib.hid hbs
      clear hn5 ht5 hbs hwk
      go_wp2_with fail
      refine (HWC.out).mono ?_
      rintro e w6 ⟨rfl, hb⟩
      have H6 := Lib.hid (newer_trans H5.out hb)
      clear hb HWC t0 t1 t2 t3 t4 t5 t6 x0 x1 x2 x3 x4
      by_cases h0 : k = 0
      · have hk0 : (k : Int) = 0 := by omega
        have hk0b : ((k : Int) == 0) = true := by simp [hk0]
        have HQ : Hid (bestK y.s ts (k + 1) = ((k : Int), wk)) := Lib.hid (by rw [HBS.out, if_pos (.inl h0)])
        clear h0
        go_wp2_with fail
        go_roundw
        case rel => exact ⟨k + 1, HLT.out, by rw [HQ.out]; first | rfl | exact congrArg vi hk0.symm | exact congrArg vi hk0, by rw [HQ.out], by go_num, H6.out⟩
        case measure => simp [intOf]; omega
      · have hk0 : ¬ (k : Int) = 0 := by omega
        have hk0b : ((k : Int) == 0) = false := by simpa using h0
        by_cases hlw : wk < b2
        · have HQ : Hid (bestK y.s ts (k + 1) = ((k : Int), wk)) := Lib.hid (by rw [HBS.out, if_pos (.inr hlw)])
          clear h0
          go_wp2_with fail
          go_roundw
          case rel => exact ⟨k + 1, HLT.out, by rw [HQ.out], by rw [HQ.out], by go_num, H6.out⟩
          case measure => simp [intOf]; omega
        · have HQ : Hid (bestK y.s ts (k + 1) = bestK y.s ts k) := Lib.hid (by rw [HBS.out, if_neg (fun h => h.elim h0 hlw)])
          clear h0
          go_wp2_with fail
          go_roundw
          case rel => exact ⟨k + 1, HLT.out, by rw [HQ.out, ← HB.out.1], by rw [HQ.out, ← HB.out.2], by go_num, H6.out⟩
          case measure => simp [intOf]; omega
    · obtain rfl : k = n := by omega
      have hkn : ¬ (k : Int) < k := by omega
      clear hnw
      go_wp2_with fail
      go_ret3
      exact ⟨by rw [← HNN.out, ← HB.out.1, ← HB.out.2]; rfl, newer_trans HE4.out.1 HW.out⟩
/-- The best stake, and its worst, or the error. -/
theorem best_any (y : Sm) (ts : List Tl) (A : Option Addr) (c : Nat) (w : World) (hok : SmOk y w) (few : SmFew y) (hts : Row tlL 7 w w.heap.size A ts) : Calls Try.prog 53 #[smV y, .slice A ts.length c] w fun e w' => e = .returned (.tuple #[vi (bestP y.s ts).1, vi (bestP y.s ts).2, vi (bestE y.s ts)]) ∧ newer w w' := by
  by_cases he : errN y.s = 0
  case neg =>
    have h1 : bestE y.s ts = errN y.s := by unfold bestE stakeE; rw [if_neg he, if_neg he]
    have h2 : bestP y.s ts = (0, 0) := by unfold bestP; rw [h1, if_neg he]
    rw [h1, h2]
    exact best_err y ts A c w hok few he
  cases hn : inB ts.length 1 8 with
  | false =>
    have h0 : stakeE y.s ts = 2 := by unfold stakeE; rw [if_pos he, if_neg (by rw [hn]; decide)]
    have h1 : bestE y.s ts = 2 := by unfold bestE; rw [h0, if_neg (by decide)]
    have h2 : bestP y.s ts = (0, 0) := by unfold bestP; rw [h1, if_neg (by decide)]
    rw [h1, h2]
    exact best_few y ts A c w hok few he hn
  | true =>
    cases hal : ts.all (stkB y.s) with
    | false =>
      have h0 : stakeE y.s ts = 1 := by unfold stakeE; rw [if_pos he, if_pos hn, if_neg (by rw [hal]; decide)]
      have h1 : bestE y.s ts = 1 := by unfold bestE; rw [h0, if_neg (by decide)]
      have h2 : bestP y.s ts = (0, 0) := by unfold bestP; rw [h1, if_neg (by decide)]
      rw [h1, h2]
      exact best_arg y ts A c w hok few hts he hn hal
    | true =>
      have h0 : stakeE y.s ts = 0 := by unfold stakeE; rw [if_pos he, if_pos hn, if_pos hal]
      have h1 : bestE y.s ts = posE (allT y.s) := by unfold bestE; rw [h0, if_pos rfl]
      by_cases hp : posE (allT y.s) = 0
      · have h2 : bestP y.s ts = bestK y.s ts ts.length := by unfold bestP; rw [h1, if_pos hp]
        rw [h1, h2, hp]
        exact best_ok y ts A c w hok few hts he hn hal hp
      · have h2 : bestP y.s ts = (0, 0) := by unfold bestP; rw [h1, if_neg hp]
        rw [h1, h2]
        exact best_pos y ts A c w hok few hts he hn hal hp

end Go.Proofs.Ytpmafnifgegfbaa

namespace Go.Proofs.Ytpmafnifgegfbaa
open Go.RowKit Go.Shelf Go.Deep

set_option maxRecDepth 100000 in
set_option maxHeartbeats 4000000 in
theorem staked_any (y : Sm) (ts : List Tl) (A : Option Addr) (c : Nat) (w : World) (hok : SmOk y w) (few : SmFew y) (h10 : ts.length ≤ 10) (hts : Row tlL 7 w w.heap.size A ts) : Calls Try.prog 52 #[smV y, .slice A ts.length c] w fun e w' => e = .returned (vi (stakeE y.s ts)) ∧ newer w w' := by
  have hnw := newer_allocH w (.cells (smC y) 26)
  have hbx := Whole.made w 26 (smC y)
  have HC := Lib.hid (refFault_any y _ (hok.next hnw) few)
  have HB0 := Lib.hid (And.intro hnw hbx)
  have HTS := Lib.hid hts
  have h6 : y.s.spots.length ≤ 1000000 := by have := few.sp; omega
  have HRT0 := Lib.hid (fun (t : Tl) W => refTool_any y t W h6)
  have x0 := hbx.at 0 (v := .slice y.sa y.s.spots.length y.sc) rfl
  have x1 := hbx.at 1 (v := vi y.s.strain) rfl
  have x2 := hbx.at 2 (v := .slice y.ta y.s.tools.length y.tc) rfl
  have x3 := hbx.at 3 (v := vi y.s.day) rfl
  have x4 := hbx.at 4 (v := .slice y.ra y.s.reads.length y.rc) rfl
  clear hnw hbx hok few hts h6
  by_cases he : errN y.s = 0
  case neg =>
    have HE : Hid (stakeE y.s ts = errN y.s) := Lib.hid (by unfold stakeE; rw [if_neg he])
    rw [HE.out]
    obtain ⟨p, hp⟩ : ∃ q, q = errN y.s := ⟨_, rfl⟩
    rw [← hp] at HC he ⊢
    clear hp
    go_enter Try.func52, Try.ntmps52
    go_wp2_with fail
    refine (HC.out).mono ?_
    rintro e w1 ⟨rfl, hb⟩
    have HN1 := Lib.hid (newer_trans HB0.out.1 hb)
    clear hb HC x0 x1 x2 x3 x4
    go_wp2_with fail
    go_ret
    exact ⟨rfl, HN1.out⟩
  case pos =>
    rw [he] at HC
    have HE0 := Lib.hid he
    clear he
    cases hn : inB ts.length 1 8 with
    | false =>
      have HE : Hid (stakeE y.s ts = 2) := Lib.hid (by unfold stakeE; rw [if_pos HE0.out, if_neg (by rw [hn]; decide)])
      rw [HE.out]
      go_enter Try.func52, Try.ntmps52
      go_wp2_with fail
      refine (HC.out).mono ?_
      rintro e w1 ⟨rfl, hb⟩
      have HN1 := Lib.hid (newer_trans HB0.out.1 hb)
      clear hb HC x0 x1 x2 x3 x4
      go_wp2_with fail
      refine (in_any (ts.length : Int) 1 8 w1).mono ?_
      rintro e w2 ⟨rfl, hw2⟩
      subst hw2
      rw [hn]
      go_wp2_with fail
      go_ret
      exact ⟨rfl, HN1.out⟩
    | true =>
      have HE : Hid (stakeE y.s ts = if ts.all (stkB y.s) = true then 0 else 1) := Lib.hid (by unfold stakeE; rw [if_pos HE0.out, if_pos hn])
      have HNB := Lib.hid hn
      obtain ⟨n, hnn⟩ : ∃ n, n = ts.length := ⟨_, rfl⟩
      rw [← hnn] at hn h10 ⊢
      have HNN := Lib.hid hnn
      clear hnn
      go_enter Try.func52, Try.ntmps52
      go_wp2_with fail
      refine (HC.out).mono ?_
      rintro e w1 ⟨rfl, hb⟩
      have HN1 := Lib.hid (And.intro (newer_trans HB0.out.1 hb) (HB0.out.2.below hb HB0.out.2.lt))
      clear hb HC x0 x1 x2 x3 x4
      go_wp2_with fail
      refine (in_any (n : Int) 1 8 w1).mono ?_
      rintro e w2 ⟨rfl, hw2⟩
      subst hw2
      rw [hn]
      clear hn
      obtain ⟨sb, hsb⟩ : ∃ q, q = w.heap.size := ⟨_, rfl⟩
      rw [← hsb] at HN1
      try rw [← hsb]
      clear hsb
      go_wp2_with fail
      try go_frame
      go_loopw [6] (fun s6 wr => ∃ k : Nat, k ≤ n ∧ s6 = vi k ∧ (ts.take k).all (stkB y.s) = true ∧ newer w1 wr) (fun s6 _ => n - (intOf s6).toNat)
      case atStart => exact ⟨0, Nat.zero_le _, rfl, rfl, newer_refl _⟩
      case round =>
        obtain ⟨k, hk, rfl, hall, hnw⟩ := hrel
        have HW := Lib.hid (And.intro hnw hall)
        by_cases hlt : k < n
        · have hkn : (k : Int) < n := by omega
          obtain ⟨t, htk⟩ : ∃ t, ts[k]? = some t := ⟨_, List.getElem?_eq_getElem (by rw [← HNN.out]; exact hlt)⟩
          obtain ⟨ab, ao, rfl, -, t0, t1, t2, t3, t4, t5, t6⟩ := row7 (HTS.out.below (newer_trans HN1.out.1 hnw)) htk
          have hx := HN1.out.2.below hnw HN1.out.2.lt
          have x0 := hx.at 0 (v := .slice y.sa y.s.spots.length y.sc) rfl
          have x1 := hx.at 1 (v := vi y.s.strain) rfl
          have x2 := hx.at 2 (v := .slice y.ta y.s.tools.length y.tc) rfl
          have x3 := hx.at 3 (v := vi y.s.day) rfl
          have x4 := hx.at 4 (v := .slice y.ra y.s.reads.length y.rc) rfl
          have HRT := Lib.hid (fun W => HRT0.out t W)
          have HTT := Lib.hid htk
          have HLT := Lib.hid hlt
          have HSK : Hid (stkB y.s t = (tlB y.s.spots.length y.s.day t && decide (t.turn = 0))) := Lib.hid rfl
          cases hb : tlB y.s.spots.length y.s.day t with
          | false =>
            rw [hb] at HRT HSK
            clear hnw hx hall htk hb
            go_wp2_with fail
            go_upto_region 9 with fail
            refine wp_words (by kernel_rfl) (region_told_u 14 (by kernel_rfl) (by kernel_rfl) [false, false, false, false, false, false, false, false, true, true, true, true, true, true] (fun W => Below wr.heap.size wr W) newer [vIs (smV y), vIs (.slice (some ⟨ab, ao, none⟩) n c), vIs (.int .i64 k), vIs (.pointer (some ⟨ab, ao + k * 7, none⟩)), vIs (tlV t), vIs (.bool false), vIs (.bool true), vIs (.bool true), vIs (undef), vIs (undef), vIs (undef), vIs (undef), vIs (undef), vIs (undef)] ⟨rfl, rfl, rfl, rfl, rfl, rfl, rfl, rfl, (fun v W h => by obtain rfl : v = _ := h; simp), (fun v W h => by obtain rfl : v = _ := h; simp), (fun v W h => by obtain rfl : v = _ := h; simp), (fun v W h => by obtain rfl : v = _ := h; simp), (fun v W h => by obtain rfl : v = _ := h; simp), (fun v W h => by obtain rfl : v = _ := h; simp), trivial⟩ ⟨(fun h => Bool.noConfusion (show false = true from h)), (fun h => Bool.noConfusion (show false = true from h)), (fun h => Bool.noConfusion (show false = true from h)), (fun h => Bool.noConfusion (show false = true from h)), (fun h => Bool.noConfusion (show false = true from h)), (fun h => Bool.noConfusion (show false = true from h)), (fun h => Bool.noConfusion (show false = true from h)), (fun h => Bool.noConfusion (show false = true from h)), (fun _ _ => rfl), (fun _ _ => rfl), (fun _ _ => rfl), (fun _ _ => rfl), (fun _ _ => rfl), (fun _ _ => rfl), trivial⟩ (fun h k => newer_trans h k) (pickD_stable _ ⟨vIs_st, vIs_st, vIs_st, vIs_st, vIs_st, vIs_st, vIs_st, vIs_st, vIs_st, vIs_st, vIs_st, vIs_st, vIs_st, vIs_st, trivial⟩) (Below.refl _ wr).drew (Below.refl _ _) ?_ ?_)
            · refine ⟨.inr ?_, .inr ?_, .inr ?_, .inr ?_, .inr ?_, .inr ?_, .inr ?_, .inr ?_, .inl rfl, .inl rfl, .inl rfl, .inl rfl, .inl rfl, .inl rfl, trivial⟩
              · intro a W hG hR hO hp
                have h2 := hO.slot 2 (by kernel_rfl)
                have c0 := keep_cell x0 hG
                have c1 := keep_cell x1 hG
                have c2 := keep_cell x2 hG
                have c3 := keep_cell x3 hG
                have c4 := keep_cell x4 hG
                refine kY (v := smV y) hG rfl ?_
                simp [slotOf] at h2
                simp [execOp, go_sem, h2, c0, c1, c2, c3, c4]
              · exact fun a W hG _ hO _ => kM 1 rfl (hO.slot 1 (by kernel_rfl)) rfl hG
              · exact fun a W hG _ hO _ => kM 6 rfl (hO.slot 6 (by kernel_rfl)) rfl hG
              · intro a W hG hR hO hp
                have h23 : slotOf a 23 = .slice (some ⟨ab, ao, none⟩) n c := hp.1
                have h24 : slotOf a 24 = .int .i64 k := hp.2.1
                refine kY (v := .pointer (some ⟨ab, ao + k * 7, none⟩)) hG rfl ?_
                simp [slotOf] at h23 h24
                simp [execOp, go_sem, h23, h24, hkn]
              · intro a W hG hR hO hp
                have h25 : slotOf a 25 = .pointer (some ⟨ab, ao + k * 7, none⟩) := hp.1
                have c0 := keep_cell t0 hG
                have c1 := keep_cell t1 hG
                have c2 := keep_cell t2 hG
                have c3 := keep_cell t3 hG
                have c4 := keep_cell t4 hG
                have c5 := keep_cell t5 hG
                have c6 := keep_cell t6 hG
                refine kY (v := tlV t) hG rfl ?_
                simp [slotOf] at h25
                simp [execOp, go_sem, h25, c0, c1, c2, c3, c4, c5, c6]
              · intro a W hG hR hO hp
                have h22 : slotOf a 22 = smV y := hp.1
                have h26 : slotOf a 26 = tlV t := hp.2.1
                refine wp_enters (f := 59) (args := #[smV y, tlV t]) ?_ ((HRT.out W).mono ?_)
                · simp [slotOf] at h22 h26
                  simp [go_sem, h22, h26]
                · rintro e w' ⟨rfl, hb⟩
                  exact ⟨_, rfl, _, rfl, rfl, hb, below_next hG hb⟩
              · intro a W hG hR hO hp
                have h27 : slotOf a 27 = .bool false := hp.1
                refine kY (v := .bool true) hG rfl ?_
                simp [slotOf] at h27
                simp [execOp, go_sem, h27]
              · exact fun a W hG _ _ hp => kM 28 rfl hp.1 rfl hG
            · intro w5 hG hR
              rintro _ rfl _ rfl _ rfl _ rfl _ rfl _ rfl _ rfl _ rfl _ rfl _ rfl _ rfl _ rfl _ rfl _ rfl
              change wpList _ _ _ _ _ _
              simp only [Act.put, List.setIfInBounds_toArray, List.set_cons_zero, List.set_cons_succ, List.drop_succ_cons, List.drop_zero]
              have H5 := Lib.hid (newer_trans HN1.out.1 (newer_trans HW.out.1 hG))
              clear hG x0 x1 x2 x3 x4 t0 t1 t2 t3 t4 t5 t6
              have HF : Hid (ts.all (stkB y.s) = false) := Lib.hid (List.all_eq_false.2 ⟨t, List.mem_of_getElem? HTT.out, by rw [HSK.out]; simp⟩)
              go_wp2_with fail
              go_ret
              exact ⟨by rw [HE.out, HF.out]; rfl, H5.out⟩
          | true =>
            rw [hb] at HRT HSK
            obtain ⟨T, hT⟩ : ∃ q, q = t.turn := ⟨_, rfl⟩
            have t3T := t3
            rw [← hT] at t3T HSK
            obtain ⟨nb, hnb⟩ : ∃ b, (T != 0) = b := ⟨_, rfl⟩
            have HND : Hid (stkB y.s t = !nb) := Lib.hid (by rw [HSK.out, ← hnb]; by_cases h : T = 0 <;> simp [h])
            clear hnw hx hall htk hb hT HSK
            go_wp2_with fail
            go_upto_region 9 with fail
            refine wp_words (by kernel_rfl) (region_told_u 14 (by kernel_rfl) (by kernel_rfl) [false, false, false, false, false, false, false, false, false, false, false, false, false, false] (fun W => Below wr.heap.size wr W) newer [vIs (smV y), vIs (.slice (some ⟨ab, ao, none⟩) n c), vIs (.int .i64 k), vIs (.pointer (some ⟨ab, ao + k * 7, none⟩)), vIs (tlV t), vIs (.bool true), vIs (.bool false), vIs (.bool false), vIs (.slice (some ⟨ab, ao, none⟩) n c), vIs (.int .i64 k), vIs (.pointer (some ⟨ab, ao + k * 7, none⟩)), vIs (.pointer (some ⟨ab, ao + k * 7 + 3, none⟩)), vIs (vi T), vIs (.bool nb)] ⟨rfl, rfl, rfl, rfl, rfl, rfl, rfl, rfl, (fun v W h => by obtain rfl : v = _ := h; rfl), (fun v W h => by obtain rfl : v = _ := h; rfl), (fun v W h => by obtain rfl : v = _ := h; rfl), (fun v W h => by obtain rfl : v = _ := h; rfl), (fun v W h => by obtain rfl : v = _ := h; rfl), (fun v W h => by obtain rfl : v = _ := h; rfl), trivial⟩ ⟨(fun h => Bool.noConfusion (show false = true from h)), (fun h => Bool.noConfusion (show false = true from h)), (fun h => Bool.noConfusion (show false = true from h)), (fun h => Bool.noConfusion (show false = true from h)), (fun h => Bool.noConfusion (show false = true from h)), (fun h => Bool.noConfusion (show false = true from h)), (fun h => Bool.noConfusion (show false = true from h)), (fun h => Bool.noConfusion (show false = true from h)), (fun h => Bool.noConfusion (show false = true from h)), (fun h => Bool.noConfusion (show false = true from h)), (fun h => Bool.noConfusion (show false = true from h)), (fun h => Bool.noConfusion (show false = true from h)), (fun h => Bool.noConfusion (show false = true from h)), (fun h => Bool.noConfusion (show false = true from h)), trivial⟩ (fun h k => newer_trans h k) (pickD_stable _ ⟨vIs_st, vIs_st, vIs_st, vIs_st, vIs_st, vIs_st, vIs_st, vIs_st, vIs_st, vIs_st, vIs_st, vIs_st, vIs_st, vIs_st, trivial⟩) (Below.refl _ wr).drew (Below.refl _ _) ?_ ?_)
            · refine ⟨.inr ?_, .inr ?_, .inr ?_, .inr ?_, .inr ?_, .inr ?_, .inr ?_, .inr ?_, .inr ?_, .inr ?_, .inr ?_, .inr ?_, .inr ?_, .inr ?_, trivial⟩
              · intro a W hG hR hO hp
                have h2 := hO.slot 2 (by kernel_rfl)
                have c0 := keep_cell x0 hG
                have c1 := keep_cell x1 hG
                have c2 := keep_cell x2 hG
                have c3 := keep_cell x3 hG
                have c4 := keep_cell x4 hG
                refine kY (v := smV y) hG rfl ?_
                simp [slotOf] at h2
                simp [execOp, go_sem, h2, c0, c1, c2, c3, c4]
              · exact fun a W hG _ hO _ => kM 1 rfl (hO.slot 1 (by kernel_rfl)) rfl hG
              · exact fun a W hG _ hO _ => kM 6 rfl (hO.slot 6 (by kernel_rfl)) rfl hG
              · intro a W hG hR hO hp
                have h23 : slotOf a 23 = .slice (some ⟨ab, ao, none⟩) n c := hp.1
                have h24 : slotOf a 24 = .int .i64 k := hp.2.1
                refine kY (v := .pointer (some ⟨ab, ao + k * 7, none⟩)) hG rfl ?_
                simp [slotOf] at h23 h24
                simp [execOp, go_sem, h23, h24, hkn]
              · intro a W hG hR hO hp
                have h25 : slotOf a 25 = .pointer (some ⟨ab, ao + k * 7, none⟩) := hp.1
                have c0 := keep_cell t0 hG
                have c1 := keep_cell t1 hG
                have c2 := keep_cell t2 hG
                have c3 := keep_cell t3 hG
                have c4 := keep_cell t4 hG
                have c5 := keep_cell t5 hG
                have c6 := keep_cell t6 hG
                refine kY (v := tlV t) hG rfl ?_
                simp [slotOf] at h25
                simp [execOp, go_sem, h25, c0, c1, c2, c3, c4, c5, c6]
              · intro a W hG hR hO hp
                have h22 : slotOf a 22 = smV y := hp.1
                have h26 : slotOf a 26 = tlV t := hp.2.1
                refine wp_enters (f := 59) (args := #[smV y, tlV t]) ?_ ((HRT.out W).mono ?_)
                · simp [slotOf] at h22 h26
                  simp [go_sem, h22, h26]
                · rintro e w' ⟨rfl, hb⟩
                  exact ⟨_, rfl, _, rfl, rfl, hb, below_next hG hb⟩
              · intro a W hG hR hO hp
                have h27 : slotOf a 27 = .bool true := hp.1
                refine kY (v := .bool false) hG rfl ?_
                simp [slotOf] at h27
                simp [execOp, go_sem, h27]
              · exact fun a W hG _ _ hp => kM 28 rfl hp.1 rfl hG
              · exact fun a W hG _ hO _ => kM 1 rfl (hO.slot 1 (by kernel_rfl)) rfl hG
              · exact fun a W hG _ hO _ => kM 6 rfl (hO.slot 6 (by kernel_rfl)) rfl hG
              · intro a W hG hR hO hp
                have h30 : slotOf a 30 = .slice (some ⟨ab, ao, none⟩) n c := hp.1
                have h31 : slotOf a 31 = .int .i64 k := hp.2.1
                refine kY (v := .pointer (some ⟨ab, ao + k * 7, none⟩)) hG rfl ?_
                simp [slotOf] at h30 h31
                simp [execOp, go_sem, h30, h31, hkn]
              · intro a W hG hR hO hp
                have h32 : slotOf a 32 = .pointer (some ⟨ab, ao + k * 7, none⟩) := hp.1
                refine kY (v := .pointer (some ⟨ab, ao + k * 7 + 3, none⟩)) hG rfl ?_
                simp [slotOf] at h32
                simp [execOp, go_sem, h32]
              · intro a W hG hR hO hp
                have h33 : slotOf a 33 = .pointer (some ⟨ab, ao + k * 7 + 3, none⟩) := hp.1
                have c0 := keep_cell t3T hG
                refine kY (v := vi T) hG rfl ?_
                simp [slotOf] at h33
                simp [execOp, go_sem, h33, c0]
              · intro a W hG hR hO hp
                have h34 : slotOf a 34 = vi T := hp.1
                refine kY (v := .bool nb) hG rfl ?_
                simp [slotOf] at h34
                simp [execOp, go_sem, h34, hnb]
            · intro w5 hG hR
              rintro _ rfl _ rfl _ rfl _ rfl _ rfl _ rfl _ rfl _ rfl _ rfl _ rfl _ rfl _ rfl _ rfl _ rfl
              change wpList _ _ _ _ _ _
              simp only [Act.put, List.setIfInBounds_toArray, List.set_cons_zero, List.set_cons_succ, List.drop_succ_cons, List.drop_zero]
              have H5 := Lib.hid (newer_trans HW.out.1 hG)
              clear hG x0 x1 x2 x3 x4 t0 t1 t2 t3 t4 t5 t6 t3T hnb
              cases nb with
              | true =>
                have HF : Hid (ts.all (stkB y.s) = false) := Lib.hid (List.all_eq_false.2 ⟨t, List.mem_of_getElem? HTT.out, by rw [HND.out]; decide⟩)
                go_wp2_with fail
                go_ret
                exact ⟨by rw [HE.out, HF.out]; rfl, newer_trans HN1.out.1 H5.out⟩
              | false =>
                have HF : Hid ((ts.take (k + 1)).all (stkB y.s) = true) := Lib.hid (by rw [List.take_add_one, HTT.out, List.all_append, HW.out.2]; simp [HND.out])
                go_wp2_with fail
                go_roundw
                case rel => exact ⟨k + 1, HLT.out, by go_num, HF.out, H5.out⟩
                case measure => simp [intOf]; omega
        · obtain rfl : k = n := by omega
          have hkn : ¬ (k : Int) < k := by omega
          have HF : Hid (ts.all (stkB y.s) = true) := Lib.hid (by have h := HW.out.2; rw [HNN.out, List.take_length] at h; exact h)
          clear hnw hall
          go_wp2_with fail
          go_ret
          exact ⟨by rw [HE.out, HF.out]; rfl, newer_trans HN1.out.1 HW.out.1⟩

end Go.Proofs.Ytpmafnifgegfbaa
