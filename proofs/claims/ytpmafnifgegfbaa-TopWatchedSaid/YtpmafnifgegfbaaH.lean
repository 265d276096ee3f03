/- May a movement be one of a spot. -/
import Derived.Test.YtpmafnifgegfbaaF
namespace Go.Proofs.Ytpmafnifgegfbaa
open Go.RowKit Go.Shelf Go.Deep

/-- A look in memory. -/
abbrev lkC (y : Sm) (ka : Option Addr) (n kc : Nat) (al : Value) : Array Value := #[.slice y.sa y.s.spots.length y.sc, vi y.s.strain, .slice y.ta y.s.tools.length y.tc, vi y.s.day, .slice y.ra y.s.reads.length y.rc, .slice ka n kc, al]
abbrev koL (o : Option Int) : List Value := [vi (koN o)]
theorem rowO {w : World} {B : Nat} {A : Option Addr} {l : List (Option Int)} (h : Row koL 1 w B A l) {k : Nat} {c : Option Int} (hk : l[k]? = some c) :
    ∃ b off, A = some ⟨b, off, none⟩ ∧ b < B ∧ w.cell? ⟨b, off + k, none⟩ = some (vi (koN c)) := by
  obtain ⟨b, off, e, hb, hc⟩ := h (ne_nil_of_get hk)
  exact ⟨b, off, e, hb, by simpa using hc k c hk 0 _ rfl⟩
/-- The first tools agree. -/
def mayK (s : Sd) (ks : List (Option Int)) (i : Nat) (m : Mv) (k : Nat) : Bool := (List.range k).all fun j => match s.tools[j]? with
  | some t => decide (t.spot ≠ (i : Int)) || agreeN t s.day (readAt s j) m (ks.getD j none)
  | none => true
theorem mayK_succ {s : Sd} {ks : List (Option Int)} {i : Nat} {m : Mv} {k : Nat} {t : Tl} (ht : s.tools[k]? = some t) : mayK s ks i m (k + 1) = (mayK s ks i m k && (decide (t.spot ≠ (i : Int)) || agreeN t s.day (readAt s k) m (ks.getD k none))) := by
  unfold mayK
  rw [List.range_succ, List.all_append]
  simp [ht]
theorem mayB_is (s : Sd) (ks : List (Option Int)) (i : Nat) (m : Mv) : mayB s ks i m = mayK s ks i m s.tools.length := rfl
theorem mayK_false {s : Sd} {ks : List (Option Int)} {i : Nat} {m : Mv} {k : Nat} (h : mayK s ks i m k = false) (hk : k ≤ s.tools.length) : mayB s ks i m = false := by
  rw [mayB_is]
  unfold mayK at h ⊢
  rw [List.all_eq_false] at h ⊢
  obtain ⟨j, h1, h2⟩ := h
  have := List.mem_range.1 h1
  exact ⟨j, List.mem_range.2 (by omega), h2⟩
set_option maxRecDepth 100000 in
set_option maxHeartbeats 2000000 in
theorem may_any (y : Sm) (ks : List (Option Int)) (lb i : Nat) (m : Mv) (ka : Option Addr) (kc : Nat) (al : Value) (w : World) (hok : SmOk y w) (hs : SdOk y.s) (hl : Whole w lb 126 (lkC y ka ks.length kc al)) (hks : Row koL 1 w w.heap.size ka ks) (hkl : ks.length = y.s.tools.length)
    (h1 : -30 ≤ m.1 ∧ m.1 ≤ 30) (h2 : -30 ≤ m.2 ∧ m.2 ≤ 30) (hkb : ∀ o ∈ ks, ∀ k, o = some k → -100000 ≤ k ∧ k ≤ 100000) :
    Calls Try.prog 92 #[.pointer (some ⟨lb, 0, none⟩), vi i, mvV m] w fun e w' => e = .returned (.bool (mayB y.s ks i m)) ∧ newer w w' := by
  have hfew := hs.few
  have hnw := newer_allocH w (.cells (mvC m) 116)
  have hmb := Whole.made w 116 (mvC m)
  have hlb := hl.alloc (.cells (mvC m) 116)
  have hkr := row_alloc hks (.cells (mvC m) 116)
  have hok2 := hok.next hnw
  have H0 := Lib.hid (And.intro hnw (And.intro hmb (And.intro hlb (And.intro hkr hok2))))
  have HX := Lib.hid (And.intro hs (And.intro h1 (And.intro h2 hkb)))
  have HBAD := Lib.hid (fun k (h : mayK y.s ks i m k = false) (hk : k ≤ y.s.tools.length) => mayK_false h hk)
  have HEND := Lib.hid (mayB_is y.s ks i m)
  obtain ⟨R, hR⟩ : ∃ R, R = mayB y.s ks i m := ⟨_, rfl⟩
  rw [← hR] at HBAD HEND ⊢
  have l2 := hlb.at 2 (v := .slice y.ta y.s.tools.length y.tc) rfl
  clear hR hok hs hl hks h1 h2 hkb hnw hmb hlb hkr hok2
  go_enter Try.func92, Try.ntmps92
  go_wp2_with fail
  go_step3
  go_wp2_with fail
  go_step3
  go_wp2_with fail
  clear l2
  go_loopw [7, 8, 9, 16] (fun s7 _ _ s16 wr => ∃ k : Nat, k ≤ y.s.tools.length ∧ s16 = vi k ∧ s7 = .bool true ∧ mayK y.s ks i m k = true ∧ newer w wr ∧ Whole wr w.heap.size 116 (mvC m) ∧ Whole wr lb 126 (lkC y ka ks.length kc al) ∧ Row koL 1 wr wr.heap.size ka ks ∧ SmOk y wr) (fun _ _ _ s16 _ => y.s.tools.length - (intOf s16).toNat)
  case atStart => exact ⟨0, Nat.zero_le _, rfl, rfl, rfl, H0.out.1, H0.out.2.1, H0.out.2.2.1, H0.out.2.2.2.1, H0.out.2.2.2.2⟩
  case round =>
    obtain ⟨k, hk, rfl, rfl, hmk, hnw, hmb, hlb, hkr, hok⟩ := hrel
    have HM := Lib.hid hmk
    clear hmk
    by_cases hlt : k < y.s.tools.length
    · have H1 := Lib.hid (And.intro (hnw) (And.intro (hmb) (And.intro (hlb) (And.intro (hkr) (hok)))))
      clear hnw hmb hlb hkr hok
      obtain ⟨t, ht⟩ : ∃ t, y.s.tools[k]? = some t := ⟨_, List.getElem?_eq_getElem hlt⟩
      obtain ⟨bt, ot, et, hbt, t0, t1, t2, t3, t4, t5, t6⟩ := row7 H1.out.2.2.2.2.tl ht
      have HT := Lib.hid ht
      have hET := Lib.hid et
      rw [et]
      clear ht et hbt
      go_upto_region 5 with fail
      refine genQ (fun X => newer w X ∧ Whole X w.heap.size 116 (mvC m) ∧ Whole X lb 126 (lkC y ka ks.length kc al) ∧ Row koL 1 X X.heap.size ka ks ∧ SmOk y X ∧ Whole X wr.heap.size 112 (tlC t)) ⟨(newer_trans H1.out.1 (newer_allocH wr (.cells (tlC t) 112))), (H1.out.2.1.below (newer_allocH wr (.cells (tlC t) 112)) H1.out.2.1.lt), (H1.out.2.2.1.below (newer_allocH wr (.cells (tlC t) 112)) H1.out.2.2.1.lt), ((H1.out.2.2.2.1.below (newer_allocH wr (.cells (tlC t) 112))).more (newer_allocH wr (.cells (tlC t) 112)).size), (H1.out.2.2.2.2.next (newer_allocH wr (.cells (tlC t) 112))), Whole.made _ _ _⟩ ?_
      obtain ⟨tb, htb⟩ : ∃ tb, tb = wr.heap.size := ⟨_, rfl⟩
      rw [← htb]
      clear htb t0 t1 t2 t3 t4 t5 t6 hET
      rintro w2 ⟨g0_, g1_, g2_, g3_, g4_, g5_⟩
      have H3 := Lib.hid (And.intro (g0_) (And.intro (g1_) (And.intro (g2_) (And.intro (g3_) (And.intro (g4_) (g5_))))))
      clear g0_ g1_ g2_ g3_ g4_ g5_ H1
      by_cases hsp : t.spot = (i : Int)
      · have hsp2 : (t.spot == (i : Int)) = true := by simpa using hsp
        obtain ⟨o, ho⟩ : ∃ o, ks[k]? = some o := ⟨_, List.getElem?_eq_getElem (by omega)⟩
        have hkk : k < ks.length := by omega
        obtain ⟨kb, kf, ek, hkb, k0⟩ := rowO H3.out.2.2.2.1 ho
        obtain ⟨ag, hag⟩ : ∃ a, a = agreeN t y.s.day (readAt y.s k) m (ks.getD k none) := ⟨_, rfl⟩
        have eo : ks.getD k none = o := by rw [List.getD_eq_getElem?_getD, ho]; rfl
        have HAG := Lib.hid (fun W (h : SmOk y W) => agrees_any y k t m o W h HX.out.1 HT.out HX.out.2.1 HX.out.2.2.1 (HX.out.2.2.2 o (List.mem_of_getElem? ho)))
        rw [← eo, ← hag, eo] at HAG
        have HA := Lib.hid hag
        clear hag eo ho hkb
        have HEK := Lib.hid ek
        have z0 := H3.out.2.2.2.2.2.at 0 (v := vi t.spot) rfl
        have z1 := H3.out.2.2.2.2.2.at 1 (v := vi t.a) rfl
        have z2 := H3.out.2.2.2.2.2.at 2 (v := vi t.b) rfl
        have z3 := H3.out.2.2.2.2.2.at 3 (v := vi t.turn) rfl
        have z4 := H3.out.2.2.2.2.2.at 4 (v := vi t.err) rfl
        have z5 := H3.out.2.2.2.2.2.at 5 (v := vi t.drift) rfl
        have z6 := H3.out.2.2.2.2.2.at 6 (v := vi t.since) rfl
        have l0 := H3.out.2.2.1.at 0 (v := .slice y.sa y.s.spots.length y.sc) rfl
        have l1 := H3.out.2.2.1.at 1 (v := vi y.s.strain) rfl
        have l2 := H3.out.2.2.1.at 2 (v := .slice y.ta y.s.tools.length y.tc) rfl
        have l3 := H3.out.2.2.1.at 3 (v := vi y.s.day) rfl
        have l4 := H3.out.2.2.1.at 4 (v := .slice y.ra y.s.reads.length y.rc) rfl
        have l5 := H3.out.2.2.1.at 5 (v := .slice ka ks.length kc) rfl
        have l6 := H3.out.2.2.1.at 6 (v := al) rfl
        have m0 := H3.out.2.1.at 0 (v := vi m.1) rfl
        have m1 := H3.out.2.1.at 1 (v := vi m.2) rfl
        rw [ek] at l5
        clear ek
        refine wp_words (by kernel_rfl) (region_told_u 20 (by kernel_rfl) (by kernel_rfl) [false, false, false, false, false, false, false, false, false, false, false, false, false, false, false, false, false, false, false, false] (fun W => Below w2.heap.size w2 W) newer [vIs (.pointer (some ⟨tb, 0, none⟩)), vIs (vi t.spot), vIs (.int .i64 i), vIs (.bool true), vIs (.bool true), vIs (.pointer (some ⟨lb, 0, none⟩)), vIs (.pointer (some ⟨lb, 0, none⟩)), vIs (.pointer (some ⟨lb, 0, none⟩)), vIs (smV y), vIs (.int .i64 k), vIs (mvV m), vIs (.pointer (some ⟨lb, 0, none⟩)), vIs (.pointer (some ⟨lb, 0, none⟩)), vIs (.pointer (some ⟨lb, 5, none⟩)), vIs (.slice (some ⟨kb, kf, none⟩) ks.length kc), vIs (.int .i64 k), vIs (.pointer (some ⟨kb, kf + k, none⟩)), vIs (vi (koN o)), vIs (.bool ag), vIs (.bool (!ag))] ⟨rfl, rfl, rfl, rfl, rfl, (fun v W h => by obtain rfl : v = _ := h; rfl), (fun v W h => by obtain rfl : v = _ := h; rfl), (fun v W h => by obtain rfl : v = _ := h; rfl), (fun v W h => by obtain rfl : v = _ := h; rfl), (fun v W h => by obtain rfl : v = _ := h; rfl), (fun v W h => by obtain rfl : v = _ := h; rfl), (fun v W h => by obtain rfl : v = _ := h; rfl), (fun v W h => by obtain rfl : v = _ := h; rfl), (fun v W h => by obtain rfl : v = _ := h; rfl), (fun v W h => by obtain rfl : v = _ := h; rfl), (fun v W h => by obtain rfl : v = _ := h; rfl), (fun v W h => by obtain rfl : v = _ := h; rfl), (fun v W h => by obtain rfl : v = _ := h; rfl), (fun v W h => by obtain rfl : v = _ := h; rfl), (fun v W h => by obtain rfl : v = _ := h; rfl), trivial⟩ ⟨(fun h => Bool.noConfusion (show false = true from h)), (fun h => Bool.noConfusion (show false = true from h)), (fun h => Bool.noConfusion (show false = true from h)), (fun h => Bool.noConfusion (show false = true from h)), (fun h => Bool.noConfusion (show false = true from h)), (fun h => Bool.noConfusion (show false = true from h)), (fun h => Bool.noConfusion (show false = true from h)), (fun h => Bool.noConfusion (show false = true from h)), (fun h => Bool.noConfusion (show false = true from h)), (fun h => Bool.noConfusion (show false = true from h)), (fun h => Bool.noConfusion (show false = true from h)), (fun h => Bool.noConfusion (show false = true from h)), (fun h => Bool.noConfusion (show false = true from h)), (fun h => Bool.noConfusion (show false = true from h)), (fun h => Bool.noConfusion (show false = true from h)), (fun h => Bool.noConfusion (show false = true from h)), (fun h => Bool.noConfusion (show false = true from h)), (fun h => Bool.noConfusion (show false = true from h)), (fun h => Bool.noConfusion (show false = true from h)), (fun h => Bool.noConfusion (show false = true from h)), trivial⟩ (fun h k => newer_trans h k) (pickD_stable _ ⟨vIs_st, vIs_st, vIs_st, vIs_st, vIs_st, vIs_st, vIs_st, vIs_st, vIs_st, vIs_st, vIs_st, vIs_st, vIs_st, vIs_st, vIs_st, vIs_st, vIs_st, vIs_st, vIs_st, vIs_st, trivial⟩) (Below.refl _ w2).drew (Below.refl _ _) ?_ ?_)
        · refine ⟨.inr ?_, .inr ?_, .inr ?_, .inr ?_, .inr ?_, .inr ?_, .inr ?_, .inr ?_, .inr ?_, .inr ?_, .inr ?_, .inr ?_, .inr ?_, .inr ?_, .inr ?_, .inr ?_, .inr ?_, .inr ?_, .inr ?_, .inr ?_, trivial⟩
          · intro a W hG hR hO hp
            have h9 := hO.slot 9 (by kernel_rfl)
            refine kY (v := .pointer (some ⟨tb, 0, none⟩)) hG rfl ?_
            simp [slotOf] at h9
            simp [execOp, go_sem, h9]
          · intro a W hG hR hO hp
            have h21 : slotOf a 21 = .pointer (some ⟨tb, 0, none⟩) := hp.1
            have c0 := keep_cell z0 hG
            refine kY (v := vi t.spot) hG rfl ?_
            simp [slotOf] at h21
            simp [execOp, go_sem, h21, c0]
          · exact fun a W hG _ hO _ => kM 1 rfl (hO.slot 1 (by kernel_rfl)) rfl hG
          · intro a W hG hR hO hp
            have h22 : slotOf a 22 = vi t.spot := hp.1
            have h23 : slotOf a 23 = .int .i64 i := hp.2.1
            refine kY (v := .bool true) hG rfl ?_
            simp [slotOf] at h22 h23
            simp [execOp, go_sem, h22, h23, hsp]
          · exact fun a W hG _ _ hp => kM 24 rfl hp.1 rfl hG
          · exact fun a W hG _ hO _ => kM 0 rfl (hO.slot 0 (by kernel_rfl)) rfl hG
          · intro a W hG hR hO hp
            have h26 : slotOf a 26 = .pointer (some ⟨lb, 0, none⟩) := hp.1
            refine kY (v := .pointer (some ⟨lb, 0, none⟩)) hG rfl ?_
            simp [slotOf] at h26
            simp [execOp, go_sem, h26]
          · intro a W hG hR hO hp
            have h27 : slotOf a 27 = .pointer (some ⟨lb, 0, none⟩) := hp.1
            refine kY (v := .pointer (some ⟨lb, 0, none⟩)) hG rfl ?_
            simp [slotOf] at h27
            simp [execOp, go_sem, h27]
          · intro a W hG hR hO hp
            have h28 : slotOf a 28 = .pointer (some ⟨lb, 0, none⟩) := hp.1
            have c0 := keep_cell l0 hG
            have c1 := keep_cell l1 hG
            have c2 := keep_cell l2 hG
            have c3 := keep_cell l3 hG
            have c4 := keep_cell l4 hG
            refine kY (v := smV y) hG rfl ?_
            simp [slotOf] at h28
            simp [execOp, go_sem, h28, c0, c1, c2, c3, c4]
          · exact fun a W hG _ hO _ => kM 8 rfl (hO.slot 8 (by kernel_rfl)) rfl hG
          · intro a W hG hR hO hp
            have h5 := hO.slot 5 (by kernel_rfl)
            have c0 := keep_cell m0 hG
            have c1 := keep_cell m1 hG
            refine kY (v := mvV m) hG rfl ?_
            simp [slotOf] at h5
            simp [execOp, go_sem, h5, c0, c1]
          · exact fun a W hG _ hO _ => kM 0 rfl (hO.slot 0 (by kernel_rfl)) rfl hG
          · intro a W hG hR hO hp
            have h32 : slotOf a 32 = .pointer (some ⟨lb, 0, none⟩) := hp.1
            refine kY (v := .pointer (some ⟨lb, 0, none⟩)) hG rfl ?_
            simp [slotOf] at h32
            simp [execOp, go_sem, h32]
          · intro a W hG hR hO hp
            have h33 : slotOf a 33 = .pointer (some ⟨lb, 0, none⟩) := hp.1
            refine kY (v := .pointer (some ⟨lb, 5, none⟩)) hG rfl ?_
            simp [slotOf] at h33
            simp [execOp, go_sem, h33]
          · intro a W hG hR hO hp
            have h34 : slotOf a 34 = .pointer (some ⟨lb, 5, none⟩) := hp.1
            have c0 := keep_cell l5 hG
            refine kY (v := .slice (some ⟨kb, kf, none⟩) ks.length kc) hG rfl ?_
            simp [slotOf] at h34
            simp [execOp, go_sem, h34, c0]
          · exact fun a W hG _ hO _ => kM 8 rfl (hO.slot 8 (by kernel_rfl)) rfl hG
          · intro a W hG hR hO hp
            have h35 : slotOf a 35 = .slice (some ⟨kb, kf, none⟩) ks.length kc := hp.1
            have h36 : slotOf a 36 = .int .i64 k := hp.2.1
            refine kY (v := .pointer (some ⟨kb, kf + k, none⟩)) hG rfl ?_
            simp [slotOf] at h35 h36
            simp [execOp, go_sem, h35, h36, hkk]
          · intro a W hG hR hO hp
            have h37 : slotOf a 37 = .pointer (some ⟨kb, kf + k, none⟩) := hp.1
            have c0 := keep_cell k0 hG
            refine kY (v := vi (koN o)) hG rfl ?_
            simp [slotOf] at h37
            simp [execOp, go_sem, h37, c0]
          · intro a W hG hR hO hp
            have h29 : slotOf a 29 = smV y := hp.1
            have h30 : slotOf a 30 = .int .i64 k := hp.2.1
            have h31 : slotOf a 31 = mvV m := hp.2.2.1
            have h38 : slotOf a 38 = vi (koN o) := hp.2.2.2.1
            refine wp_enters (f := 76) (args := #[smV y, vi k, mvV m, vi (koN o)]) ?_ ((HAG.out W (H3.out.2.2.2.2.1.next hG)).mono ?_)
            · simp [slotOf] at h29 h30 h31 h38
              simp [go_sem, h29, h30, h31, h38]
            · rintro e w' ⟨rfl, hb⟩
              exact ⟨_, rfl, _, rfl, rfl, hb, below_next hG hb⟩
          · intro a W hG hR hO hp
            have h39 : slotOf a 39 = .bool ag := hp.1
            refine kY (v := .bool (!ag)) hG rfl ?_
            simp [slotOf] at h39
            simp [execOp, go_sem, h39]
        · intro wz hG hR
          rintro _ rfl _ rfl _ rfl _ rfl _ rfl _ rfl _ rfl _ rfl _ rfl _ rfl _ rfl _ rfl _ rfl _ rfl _ rfl _ rfl _ rfl _ rfl _ rfl _ rfl
          change wpList _ _ _ _ _ _
          simp only [Act.put, List.setIfInBounds_toArray, List.set_cons_zero, List.set_cons_succ, List.drop_succ_cons, List.drop_zero]
          clear hR
          have H4 := Lib.hid (And.intro ((newer_trans H3.out.1 hG)) (And.intro ((H3.out.2.1.below hG H3.out.2.1.lt)) (And.intro ((H3.out.2.2.1.below hG H3.out.2.2.1.lt)) (And.intro (((H3.out.2.2.2.1.below hG).more hG.size)) (And.intro ((H3.out.2.2.2.2.1.next hG)) ((H3.out.2.2.2.2.2.below hG H3.out.2.2.2.2.2.lt)))))))
          clear hG H3 z0 z1 z2 z3 z4 z5 z6 l0 l1 l2 l3 l4 l5 l6 m0 m1
          cases ag with
          | true =>
            have HN := Lib.hid (show mayK y.s ks i m (k + 1) = true by rw [mayK_succ HT.out, HM.out, ← HA.out, Bool.or_true, Bool.and_self])
            go_wp2_with fail
            go_roundw
            case rel => exact ⟨k + 1, by omega, by go_num, rfl, HN.out, H4.out.1, H4.out.2.1, H4.out.2.2.1, H4.out.2.2.2.1, H4.out.2.2.2.2.1⟩
            case measure => simp [intOf]; omega
          | false =>
            have HN := Lib.hid (HBAD.out (k + 1) (by rw [mayK_succ HT.out, HM.out, ← HA.out]; simp [hsp]) hlt)
            go_wp2_with fail
            rw [Exit.noGoto_ret]
            go_ret
            exact ⟨ret_bool (by rw [HN.out]), H4.out.1⟩
      · have hsp2 : (t.spot == (i : Int)) = false := by simpa using hsp
        have z0 := H3.out.2.2.2.2.2.at 0 (v := vi t.spot) rfl
        have z1 := H3.out.2.2.2.2.2.at 1 (v := vi t.a) rfl
        have z2 := H3.out.2.2.2.2.2.at 2 (v := vi t.b) rfl
        have z3 := H3.out.2.2.2.2.2.at 3 (v := vi t.turn) rfl
        have z4 := H3.out.2.2.2.2.2.at 4 (v := vi t.err) rfl
        have z5 := H3.out.2.2.2.2.2.at 5 (v := vi t.drift) rfl
        have z6 := H3.out.2.2.2.2.2.at 6 (v := vi t.since) rfl
        refine wp_words (by kernel_rfl) (region_told_u 20 (by kernel_rfl) (by kernel_rfl) [false, false, false, false, false, true, true, true, true, true, true, true, true, true, true, true, true, true, true, true] (fun W => Below w2.heap.size w2 W) newer [vIs (.pointer (some ⟨tb, 0, none⟩)), vIs (vi t.spot), vIs (.int .i64 i), vIs (.bool false), vIs (.bool false), vIs (undef), vIs (undef), vIs (undef), vIs (undef), vIs (undef), vIs (undef), vIs (undef), vIs (undef), vIs (undef), vIs (undef), vIs (undef), vIs (undef), vIs (undef), vIs (undef), vIs (undef)] ⟨rfl, rfl, rfl, rfl, rfl, (fun v W h => by obtain rfl : v = _ := h; simp), (fun v W h => by obtain rfl : v = _ := h; simp), (fun v W h => by obtain rfl : v = _ := h; simp), (fun v W h => by obtain rfl : v = _ := h; simp), (fun v W h => by obtain rfl : v = _ := h; simp), (fun v W h => by obtain rfl : v = _ := h; simp), (fun v W h => by obtain rfl : v = _ := h; simp), (fun v W h => by obtain rfl : v = _ := h; simp), (fun v W h => by obtain rfl : v = _ := h; simp), (fun v W h => by obtain rfl : v = _ := h; simp), (fun v W h => by obtain rfl : v = _ := h; simp), (fun v W h => by obtain rfl : v = _ := h; simp), (fun v W h => by obtain rfl : v = _ := h; simp), (fun v W h => by obtain rfl : v = _ := h; simp), (fun v W h => by obtain rfl : v = _ := h; simp), trivial⟩ ⟨(fun h => Bool.noConfusion (show false = true from h)), (fun h => Bool.noConfusion (show false = true from h)), (fun h => Bool.noConfusion (show false = true from h)), (fun h => Bool.noConfusion (show false = true from h)), (fun h => Bool.noConfusion (show false = true from h)), (fun _ _ => rfl), (fun _ _ => rfl), (fun _ _ => rfl), (fun _ _ => rfl), (fun _ _ => rfl), (fun _ _ => rfl), (fun _ _ => rfl), (fun _ _ => rfl), (fun _ _ => rfl), (fun _ _ => rfl), (fun _ _ => rfl), (fun _ _ => rfl), (fun _ _ => rfl), (fun _ _ => rfl), (fun _ _ => rfl), trivial⟩ (fun h k => newer_trans h k) (pickD_stable _ ⟨vIs_st, vIs_st, vIs_st, vIs_st, vIs_st, vIs_st, vIs_st, vIs_st, vIs_st, vIs_st, vIs_st, vIs_st, vIs_st, vIs_st, vIs_st, vIs_st, vIs_st, vIs_st, vIs_st, vIs_st, trivial⟩) (Below.refl _ w2).drew (Below.refl _ _) ?_ ?_)
        · refine ⟨.inr ?_, .inr ?_, .inr ?_, .inr ?_, .inr ?_, .inl rfl, .inl rfl, .inl rfl, .inl rfl, .inl rfl, .inl rfl, .inl rfl, .inl rfl, .inl rfl, .inl rfl, .inl rfl, .inl rfl, .inl rfl, .inl rfl, .inl rfl, trivial⟩
          · intro a W hG hR hO hp
            have h9 := hO.slot 9 (by kernel_rfl)
            refine kY (v := .pointer (some ⟨tb, 0, none⟩)) hG rfl ?_
            simp [slotOf] at h9
            simp [execOp, go_sem, h9]
          · intro a W hG hR hO hp
            have h21 : slotOf a 21 = .pointer (some ⟨tb, 0, none⟩) := hp.1
            have c0 := keep_cell z0 hG
            refine kY (v := vi t.spot) hG rfl ?_
            simp [slotOf] at h21
            simp [execOp, go_sem, h21, c0]
          · exact fun a W hG _ hO _ => kM 1 rfl (hO.slot 1 (by kernel_rfl)) rfl hG
          · intro a W hG hR hO hp
            have h22 : slotOf a 22 = vi t.spot := hp.1
            have h23 : slotOf a 23 = .int .i64 i := hp.2.1
            refine kY (v := .bool false) hG rfl ?_
            simp [slotOf] at h22 h23
            simp [execOp, go_sem, h22, h23, hsp]
          · exact fun a W hG _ _ hp => kM 24 rfl hp.1 rfl hG
        · intro wz hG hR
          rintro _ rfl _ rfl _ rfl _ rfl _ rfl _ rfl _ rfl _ rfl _ rfl _ rfl _ rfl _ rfl _ rfl _ rfl _ rfl _ rfl _ rfl _ rfl _ rfl _ rfl
          change wpList _ _ _ _ _ _
          simp only [Act.put, List.setIfInBounds_toArray, List.set_cons_zero, List.set_cons_succ, List.drop_succ_cons, List.drop_zero]
          clear hR
          have H5 := Lib.hid (And.intro ((newer_trans H3.out.1 hG)) (And.intro ((H3.out.2.1.below hG H3.out.2.1.lt)) (And.intro ((H3.out.2.2.1.below hG H3.out.2.2.1.lt)) (And.intro (((H3.out.2.2.2.1.below hG).more hG.size)) (And.intro ((H3.out.2.2.2.2.1.next hG)) ((H3.out.2.2.2.2.2.below hG H3.out.2.2.2.2.2.lt)))))))
          clear hG H3 z0 z1 z2 z3 z4 z5 z6
          have HN := Lib.hid (show mayK y.s ks i m (k + 1) = true by rw [mayK_succ HT.out, HM.out]; simp [hsp])
          go_wp2_with fail
          go_roundw
          case rel => exact ⟨k + 1, by omega, by go_num, rfl, HN.out, H5.out.1, H5.out.2.1, H5.out.2.2.1, H5.out.2.2.2.1, H5.out.2.2.2.2.1⟩
          case measure => simp [intOf]; omega
    · have HN := Lib.hid hnw
      have hkn : k = y.s.tools.length := by omega
      subst hkn
      clear hnw hmb hlb hkr hok
      go_wp2_with fail
      rw [Exit.noGoto_ret]
      go_ret
      exact ⟨ret_bool (by rw [HEND.out, HM.out]), HN.out⟩

end Go.Proofs.Ytpmafnifgegfbaa
