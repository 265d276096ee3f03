/- A plan by words. -/
import Derived.Test.YtpnpnfjhjjdmgaaAT
namespace Go.Proofs.Ytpnpnfjhjjdmgaa
open Go.RowKit Go.Deep

def chN (bs : List Byt) (i : Nat) (x : Wd) : Int := match bs[i % bs.length]? with
  | some b => b.n % (x.last - x.first + 2)
  | none => 0
def chV (vs : List Bool) (bs : List Byt) (i : Nat) (x : Wd) : Int := if chN bs i x = 0 ∨ agreeB vs x = false then -1 else x.first + chN bs i x - 1
/-- A plan by words: of the first works. -/
def chK (q : Pj) (bs : List Byt) : Nat → List Int
  | 0 => []
  | k + 1 => chK q bs k ++ (match q.works[k]? with
    | some x => [chV q.villages bs k x]
    | none => [])
def chP (q : Pj) (bs : List Byt) : List Int := chK q bs q.works.length
theorem chK_len (q : Pj) (bs : List Byt) : ∀ k, (chK q bs k).length ≤ k
  | 0 => Nat.le_refl _
  | k + 1 => by
    have := chK_len q bs k
    simp only [chK, List.length_append]
    split <;> simp <;> omega
theorem chK_at {q : Pj} {bs : List Byt} {k : Nat} {x : Wd} (h : q.works[k]? = some x) : chK q bs (k + 1) = chK q bs k ++ [chV q.villages bs k x] := by simp only [chK, h]
theorem chV_no0 {vs : List Bool} {bs : List Byt} {k : Nat} {x : Wd} (h : chN bs k x = 0) : chV vs bs k x = -1 := by unfold chV; rw [if_pos (.inl h)]
theorem chV_noA {vs : List Bool} {bs : List Byt} {k : Nat} {x : Wd} (h : agreeB vs x = false) : chV vs bs k x = -1 := by unfold chV; rw [if_pos (.inr h)]
theorem chV_yes {vs : List Bool} {bs : List Byt} {k : Nat} {x : Wd} {v : Int} (h : chN bs k x ≠ 0) (ha : agreeB vs x = true) (hv : v = x.first + chN bs k x - 1) : chV vs bs k x = v := by
  unfold chV
  rw [if_neg (by rw [ha]; simp [h]), hv]
set_option maxRecDepth 100000 in
set_option maxHeartbeats 4000000 in
theorem chosen_any (p : Pm) (bs : List Byt) (B : Option Addr) (bc : Nat) (w : World) (hok : PmOk p w) (hpo : PjOk p) (hbl : bs.length ≤ maxLen) (hr : Row byL 1 w w.heap.size B bs) :
    Calls Try.prog 40 #[pmV p, .slice B bs.length bc] w fun e w' => (∃ A c, e = .returned (.slice A (chP p.pj bs).length c) ∧ Row intL 1 w' w'.heap.size A (chP p.pj bs)) ∧ newer w w' := by
  have hnw := newer_allocH w (.cells (pmC p) 27)
  have HX := Lib.hid (And.intro (Whole.made w 27 (pmC p)) hnw)
  have hwn := hpo.wn
  have HOK := Lib.hid hok
  have HR := Lib.hid hr
  have HPO := Lib.hid hpo
  have HSZ : Hid (p.ws.length ≤ 8) := Lib.hid hwn
  have HWG : Hid (∀ (k : Nat) (x : Wk), p.ws[k]? = some x → p.pj.works[k]? = some x.d) := Lib.hid (fun k x hx => by simp [Pm.pj, hx])
  have hmp : chP p.pj bs = chK p.pj bs p.ws.length := by unfold chP; rw [show p.pj.works.length = p.ws.length by simp [Pm.pj]]
  rw [hmp]
  obtain ⟨i0, hi0, hz0, hz1, hz2⟩ := info_parts Try.info3w
  have HI := Lib.hid (And.intro hi0 (And.intro hz0 (And.intro hz1 hz2)))
  have HBL := Lib.hid hbl
  clear hpo hok hr hmp hi0 hz0 hz1 hz2 hnw hbl
  go_enter Try.func40, Try.ntmps40
  go_wp2_with fail
  obtain ⟨aa, haa⟩ : ∃ aa, aa = B := ⟨_, rfl⟩
  rw [← haa]
  have HAA := Lib.hid haa
  clear haa
  go_loopw [5, 6] (fun s5 s6 wr => ∃ k : Nat, k ≤ p.ws.length ∧ s6 = .int .i64 k ∧ newer w wr ∧ Whole wr w.heap.size 27 (pmC p) ∧ wr.ownsRow w.heap.size 3 1 s5 (chK p.pj bs k).length ((chK p.pj bs k).flatMap intL)) (fun _ s6 _ => p.ws.length - (intOf s6).toNat)
  case atStart => exact ⟨0, Nat.zero_le _, rfl, HX.out.2, HX.out.1, by simp [chK], .inl ⟨rfl, rfl⟩⟩
  case round =>
    obtain ⟨k, hk, rfl, hbw, hbx, hown⟩ := hrel
    clear HX
    have x2 := hbx.at 2 (v := .slice p.wa p.ws.length p.wc) rfl
    by_cases hlt : k < p.ws.length
    · have hkn : (k : Int) < p.ws.length := by omega
      obtain ⟨x, hx⟩ := get_of_lt hlt
      have HXD := Lib.hid (HWG.out k x hx)
      have HWB := Lib.hid (wdB_parts (HPO.out.ws x (List.mem_of_getElem? hx)))
      obtain ⟨b2, o2, e2, _, d0, d1, d2, d3, d4, d5⟩ := row6 (HOK.out.next hbw).ws hx
      rw [e2] at x2
      have HBW := Lib.hid (And.intro hbw (And.intro hbx hown))
      clear hbw hbx hown hx e2
      go_upto_region 6 with fail
      refine genQ (fun X => newer wr X ∧ Whole X wr.heap.size 63 (wkC x)) ⟨newer_allocH _ _, Whole.made _ _ _⟩ ?_
      obtain ⟨xb, hxb⟩ : ∃ xb, xb = wr.heap.size := ⟨_, rfl⟩
      rw [← hxb]
      clear hxb d0 d1 d2 d3 d4 d5 x2
      rintro wv ⟨hn, hwx⟩
      have HB0 := Lib.hid (And.intro (newer_trans HBW.out.1 hn) (And.intro (HBW.out.2.1.below hn HBW.out.2.1.lt) (own_below HBW.out.2.2 hn)))
      have HWX := Lib.hid hwx
      have d0 := hwx.at 0 (v := vi x.d.price) rfl
      have d1 := hwx.at 1 (v := vi x.d.first) rfl
      have d2 := hwx.at 2 (v := vi x.d.last) rfl
      have d3 := hwx.at 3 (v := vi x.d.age) rfl
      have d4 := hwx.at 4 (v := vi x.d.village) rfl
      have d5 := hwx.at 5 (v := .slice x.a x.d.adds.length x.cp) rfl
      have x4 := HB0.out.2.1.at 4 (v := .slice p.va p.vs.length p.vc) rfl
      clear hn hwx HBW
      by_cases hbe : bs.length = 0
      · have hl0 : ¬ ((0 : Int) < bs.length) := by omega
        have HCN : Hid (chN bs k x.d = 0) := Lib.hid (by unfold chN; rw [List.eq_nil_of_length_eq_zero hbe]; rfl)
        obtain ⟨wx, hwx⟩ : ∃ wx, wx = wv := ⟨_, rfl⟩
        rw [← hwx] at HB0 d0 d1 d2 d3 d4 d5 x4 ⊢
        have HF := Lib.hid (And.intro HB0.out.1 (And.intro HB0.out.2.1 HB0.out.2.2))
        clear hwx HWX hbe HB0
        have HY : Hid (chK p.pj bs (k + 1) = chK p.pj bs k ++ [-1]) := Lib.hid (by rw [chK_at HXD.out, chV_no0 HCN.out])
        have HO := Lib.hid (own_below HF.out.2.2 (newer_allocH wx (.cells #[vi (-1)] 3)))
        have HN := Lib.hid (newer_trans HF.out.1 (newer_allocH wx (.cells #[vi (-1)] 3)))
        have HBX := Lib.hid (HF.out.2.1.alloc (.cells #[vi (-1)] 3))
        have HNW := Lib.hid (World.news_of_block (Whole.made wx 3 #[vi (-1)]))
        have hbs := HF.out.1.size
        have hml := chK_len p.pj bs k
        have hwn := HPO.out.wn
        have hwg := HSZ.out
        obtain ⟨hi0, hz0, hz1, hz2⟩ := HI.out
        clear HF
        go_wp2_with (at_builtin; go_loud ((refine wpList_append_lies _ rfl (.tmp 55) (.tmp 56) 25 rfl w.heap.size 3 i0 (.int .i64 0) 1 8 Try.underlying25 hi0 hz0 hz1 hz2 rfl (by omega) _ (chK p.pj bs k).length _ rfl HO.out ⟨wx.heap.size, 0, none⟩ 1 1 [vi (-1)] rfl rfl HNW.out (by simp [Value.oneCell']) (by omega) (by unfold maxLen; omega) (by omega) (by simp; omega) (wx.heap.size + 1) (by simp) ?_); intro gg cp2 w2 hown2 hgrow2 hat2 hlt2; have HG := Lib.hid (And.intro hown2 (And.intro (HN.out.grown hgrow2 HN.out.size (own_ge HO.out)) (HBX.out.grown hgrow2 (own_ne HO.out HBX.out (by decide)).symm))); clear hown2 hgrow2 hat2 hlt2 hi0 hz0 hz1 hz2 hbs))
        go_roundw
        case rel =>
          refine ⟨k + 1, by omega, by go_num, HG.out.2.1, HG.out.2.2, ?_⟩
          rw [HY.out, List.length_append, List.flatMap_append]
          exact HG.out.1
        case measure => simp [intOf]; omega
      · have hl0 : (0 : Int) < bs.length := by omega
        have hbl := HBL.out
        unfold maxLen at hbl
        obtain ⟨j, hj⟩ : ∃ j, j = k % bs.length := ⟨_, rfl⟩
        have hjb : j < bs.length := by rw [hj]; exact Nat.mod_lt _ (by omega)
        obtain ⟨by_, hby⟩ := get_of_lt hjb
        have hjn : (j : Int) < bs.length := by omega
        have hbn : ¬ (bs = []) := by rintro rfl; exact hbe rfl
        have ej : (k : Int).tmod bs.length = j := by
          rw [hj, Int.tmod_eq_emod_of_nonneg (by omega)]
          simp
        have hb0 := by_.lo
        have hb1 := by_.hi
        have hwf := HWB.out.2.1
        have hyr := HPO.out.years
        obtain ⟨dd, hdd⟩ : ∃ dd, dd = x.d.last - x.d.first := ⟨_, rfl⟩
        obtain ⟨mm, hmm⟩ : ∃ mm, mm = dd + 2 := ⟨_, rfl⟩
        obtain ⟨kc, hkc⟩ : ∃ kc, kc = by_.n % mm := ⟨_, rfl⟩
        have hm0 : ¬ (mm = 0) := by omega
        have e31 : IntKind.i64.wrap by_.n = by_.n := IntWalk.i64_in _ (by omega)
        have e36 : IntKind.i64.wrap (x.d.last - x.d.first) = dd := by rw [← hdd]; exact IntWalk.i64_in _ (by omega)
        have e37 : IntKind.i64.wrap (dd + 2) = mm := by rw [← hmm]; exact IntWalk.i64_in _ (by omega)
        have e38 : by_.n.tmod mm = kc := by rw [hkc]; exact Int.tmod_eq_emod_of_nonneg hb0
        have hk1 : 0 ≤ kc ∧ kc < mm := by rw [hkc]; exact ⟨Int.emod_nonneg _ hm0, Int.emod_lt_of_pos _ (by omega)⟩
        have e38w : IntKind.i64.wrap kc = kc := IntWalk.i64_in _ (by omega)
        have HCN : Hid (chN bs k x.d = kc) := Lib.hid (by
          unfold chN
          rw [← hj, hby, hkc, hmm, hdd])
        obtain ⟨fk, hfk⟩ : ∃ fk, fk = x.d.first + kc := ⟨_, rfl⟩
        obtain ⟨yv, hyv⟩ : ∃ yv, yv = fk - 1 := ⟨_, rfl⟩
        have e62 : IntKind.i64.wrap (x.d.first + kc) = fk := by rw [← hfk]; exact IntWalk.i64_in _ (by omega)
        have e63 : IntKind.i64.wrap (fk - 1) = yv := by rw [← hyv]; exact IntWalk.i64_in _ (by omega)
        have HYV : Hid (yv = x.d.first + chN bs k x.d - 1) := Lib.hid (by rw [HCN.out, hyv, hfk])
        obtain ⟨b3, o3, e3, _, cb⟩ := row_byte ((HR.out.below HB0.out.1).more HB0.out.1.size) hby
        have e5 := HAA.out.trans e3
        clear e3 HAA
        subst e5
        clear hbl hj hjb hby hb0 hb1 hwf hyr hdd hmm hkc hk1 hfk hyv hbe
        go_upto_region 8 with fail
        refine wp_words (by kernel_rfl) (region_told 15 (by kernel_rfl) (by kernel_rfl) (fun W => Below wv.heap.size wv W) newer (pickD [vIs (.slice (some ⟨b3, o3, none⟩) bs.length bc), vIs (.int .i64 k), vIs (.slice (some ⟨b3, o3, none⟩) bs.length bc), vIs (.int .i64 bs.length), vIs (.int .i64 j), vIs (.pointer (some ⟨b3, o3 + j, none⟩)), vIs (.int .u8 by_.n), vIs (vi by_.n), vIs (.pointer (some ⟨xb, 2, none⟩)), vIs (vi x.d.last), vIs (.pointer (some ⟨xb, 1, none⟩)), vIs (vi x.d.first), vIs (vi dd), vIs (vi mm), vIs (vi kc)]) (fun h k => newer_trans h k) (pickD_stable _ ⟨vIs_st, vIs_st, vIs_st, vIs_st, vIs_st, vIs_st, vIs_st, vIs_st, vIs_st, vIs_st, vIs_st, vIs_st, vIs_st, vIs_st, vIs_st, trivial⟩) (Below.refl _ wv).drew (Below.refl _ _) ?_ ?_)
        · refine ⟨?_, ?_, ?_, ?_, ?_, ?_, ?_, ?_, ?_, ?_, ?_, ?_, ?_, ?_, ?_, trivial⟩
          · intro a W hG hR hO hp
            have h1 := hO.slot 1 (by kernel_rfl)
            refine wp_yields (v := .slice (some ⟨b3, o3, none⟩) bs.length bc) ?_ ⟨_, rfl, rfl, Below.refl _ _, hG⟩
            simp [slotOf] at h1
            simp [execOp, go_sem, h1]
          · intro a W hG hR hO hp
            have h6 := hO.slot 6 (by kernel_rfl)
            refine wp_yields (v := .int .i64 k) ?_ ⟨_, rfl, rfl, Below.refl _ _, hG⟩
            simp [slotOf] at h6
            simp [execOp, go_sem, h6]
          · intro a W hG hR hO hp
            have h1 := hO.slot 1 (by kernel_rfl)
            refine wp_yields (v := .slice (some ⟨b3, o3, none⟩) bs.length bc) ?_ ⟨_, rfl, rfl, Below.refl _ _, hG⟩
            simp [slotOf] at h1
            simp [execOp, go_sem, h1]
          · intro a W hG hR hO hp
            have h26 : slotOf a 26 = .slice (some ⟨b3, o3, none⟩) bs.length bc := hp.1
            refine wp_yields (v := .int .i64 bs.length) ?_ ⟨_, rfl, rfl, Below.refl _ _, hG⟩
            simp [slotOf] at h26
            simp [go_sem, h26]
          · intro a W hG hR hO hp
            have h25 : slotOf a 25 = .int .i64 k := hp.1
            have h27 : slotOf a 27 = .int .i64 bs.length := hp.2.1
            refine wp_yields (v := .int .i64 j) ?_ ⟨_, rfl, rfl, Below.refl _ _, hG⟩
            simp [slotOf] at h25 h27
            simp [execOp, go_sem, h25, h27, ej, hbn]
          · intro a W hG hR hO hp
            have h24 : slotOf a 24 = .slice (some ⟨b3, o3, none⟩) bs.length bc := hp.1
            have h28 : slotOf a 28 = .int .i64 j := hp.2.1
            refine wp_yields (v := .pointer (some ⟨b3, o3 + j, none⟩)) ?_ ⟨_, rfl, rfl, Below.refl _ _, hG⟩
            simp [slotOf] at h24 h28
            simp [execOp, go_sem, h24, h28, hjn]
          · intro a W hG hR hO hp
            have h29 : slotOf a 29 = .pointer (some ⟨b3, o3 + j, none⟩) := hp.1
            have c0 := keep_cell cb hG
            refine wp_yields (v := .int .u8 by_.n) ?_ ⟨_, rfl, rfl, Below.refl _ _, hG⟩
            simp [slotOf] at h29
            simp [execOp, go_sem, h29, c0]
          · intro a W hG hR hO hp
            have h30 : slotOf a 30 = .int .u8 by_.n := hp.1
            refine wp_yields (v := vi by_.n) ?_ ⟨_, rfl, rfl, Below.refl _ _, hG⟩
            simp [slotOf] at h30
            simp [execOp, go_sem, h30, e31]
          · intro a W hG hR hO hp
            have h7 := hO.slot 7 (by kernel_rfl)
            refine wp_yields (v := .pointer (some ⟨xb, 2, none⟩)) ?_ ⟨_, rfl, rfl, Below.refl _ _, hG⟩
            simp [slotOf] at h7
            simp [execOp, go_sem, h7]
          · intro a W hG hR hO hp
            have h32 : slotOf a 32 = .pointer (some ⟨xb, 2, none⟩) := hp.1
            have c0 := keep_cell d2 hG
            refine wp_yields (v := vi x.d.last) ?_ ⟨_, rfl, rfl, Below.refl _ _, hG⟩
            simp [slotOf] at h32
            simp [execOp, go_sem, h32, c0]
          · intro a W hG hR hO hp
            have h7 := hO.slot 7 (by kernel_rfl)
            refine wp_yields (v := .pointer (some ⟨xb, 1, none⟩)) ?_ ⟨_, rfl, rfl, Below.refl _ _, hG⟩
            simp [slotOf] at h7
            simp [execOp, go_sem, h7]
          · intro a W hG hR hO hp
            have h34 : slotOf a 34 = .pointer (some ⟨xb, 1, none⟩) := hp.1
            have c0 := keep_cell d1 hG
            refine wp_yields (v := vi x.d.first) ?_ ⟨_, rfl, rfl, Below.refl _ _, hG⟩
            simp [slotOf] at h34
            simp [execOp, go_sem, h34, c0]
          · intro a W hG hR hO hp
            have h33 : slotOf a 33 = vi x.d.last := hp.1
            have h35 : slotOf a 35 = vi x.d.first := hp.2.1
            refine wp_yields (v := vi dd) ?_ ⟨_, rfl, rfl, Below.refl _ _, hG⟩
            simp [slotOf] at h33 h35
            simp [execOp, go_sem, h33, h35, e36]
          · intro a W hG hR hO hp
            have h36 : slotOf a 36 = vi dd := hp.1
            refine wp_yields (v := vi mm) ?_ ⟨_, rfl, rfl, Below.refl _ _, hG⟩
            simp [slotOf] at h36
            simp [execOp, go_sem, h36, e37]
          · intro a W hG hR hO hp
            have h31 : slotOf a 31 = vi by_.n := hp.1
            have h37 : slotOf a 37 = vi mm := hp.2.1
            refine wp_yields (v := vi kc) ?_ ⟨_, rfl, rfl, Below.refl _ _, hG⟩
            simp [slotOf] at h31 h37
            simp [execOp, go_sem, h31, h37, e38, hm0]
        · intro W hG hR
          rintro _ rfl _ rfl _ rfl _ rfl _ rfl _ rfl _ rfl _ rfl _ rfl _ rfl _ rfl _ rfl _ rfl _ rfl _ rfl
          change wpList _ _ _ _ _ _
          simp only [Act.put, List.setIfInBounds_toArray, List.set_cons_zero, List.set_cons_succ, List.drop_succ_cons, List.drop_zero]
          have HF := Lib.hid (And.intro (newer_trans HB0.out.1 hG) (And.intro (HB0.out.2.1.below hG HB0.out.2.1.lt) (own_below HB0.out.2.2 hG)))
          have hwx2 := HWX.out.below hG HWX.out.lt
          clear d0 d1 d2 d3 d4 d5 x4 cb hl0 hjn hbn ej hm0 e31 e36 e37 e38 e38w
          obtain ⟨wx, hwx⟩ : ∃ wx, wx = W := ⟨_, rfl⟩
          rw [← hwx] at HF hwx2 ⊢
          have d0 := hwx2.at 0 (v := vi x.d.price) rfl
          have d1 := hwx2.at 1 (v := vi x.d.first) rfl
          have d2 := hwx2.at 2 (v := vi x.d.last) rfl
          have d3 := hwx2.at 3 (v := vi x.d.age) rfl
          have d4 := hwx2.at 4 (v := vi x.d.village) rfl
          have d5 := hwx2.at 5 (v := .slice x.a x.d.adds.length x.cp) rfl
          have x4 := HF.out.2.1.at 4 (v := .slice p.va p.vs.length p.vc) rfl
          clear hG hR hwx hwx2 HB0 HWX W
          by_cases hk0 : kc = 0
          · have e40 : (kc == 0) = true := by rw [beq_iff_eq]; exact hk0
            have HK0 : Hid (chN bs k x.d = 0) := Lib.hid (by rw [HCN.out]; exact hk0)
            clear hk0
            have HY : Hid (chK p.pj bs (k + 1) = chK p.pj bs k ++ [-1]) := Lib.hid (by rw [chK_at HXD.out, chV_no0 HK0.out])
            have HO := Lib.hid (own_below HF.out.2.2 (newer_allocH wx (.cells #[vi (-1)] 3)))
            have HN := Lib.hid (newer_trans HF.out.1 (newer_allocH wx (.cells #[vi (-1)] 3)))
            have HBX := Lib.hid (HF.out.2.1.alloc (.cells #[vi (-1)] 3))
            have HNW := Lib.hid (World.news_of_block (Whole.made wx 3 #[vi (-1)]))
            have hbs := HF.out.1.size
            have hml := chK_len p.pj bs k
            have hwn := HPO.out.wn
            have hwg := HSZ.out
            obtain ⟨hi0, hz0, hz1, hz2⟩ := HI.out
            clear HF
            go_wp2_with (at_builtin; go_loud ((refine wpList_append_lies _ rfl (.tmp 55) (.tmp 56) 25 rfl w.heap.size 3 i0 (.int .i64 0) 1 8 Try.underlying25 hi0 hz0 hz1 hz2 rfl (by omega) _ (chK p.pj bs k).length _ rfl HO.out ⟨wx.heap.size, 0, none⟩ 1 1 [vi (-1)] rfl rfl HNW.out (by simp [Value.oneCell']) (by omega) (by unfold maxLen; omega) (by omega) (by simp; omega) (wx.heap.size + 1) (by simp) ?_); intro gg cp2 w2 hown2 hgrow2 hat2 hlt2; have HG := Lib.hid (And.intro hown2 (And.intro (HN.out.grown hgrow2 HN.out.size (own_ge HO.out)) (HBX.out.grown hgrow2 (own_ne HO.out HBX.out (by decide)).symm))); clear hown2 hgrow2 hat2 hlt2 hi0 hz0 hz1 hz2 hbs))
            go_roundw
            case rel =>
              refine ⟨k + 1, by omega, by go_num, HG.out.2.1, HG.out.2.2, ?_⟩
              rw [HY.out, List.length_append, List.flatMap_append]
              exact HG.out.1
            case measure => simp [intOf]; omega
          · have e40 : (kc == 0) = false := by rw [beq_eq_false_iff_ne]; exact hk0
            have HK0 : Hid (chN bs k x.d ≠ 0) := Lib.hid (by rw [HCN.out]; exact hk0)
            clear hk0
            by_cases hvm : x.d.village = -1
            · have i1 : ¬ (0 ≤ x.d.village) := by omega
              have HAG : Hid (agreeB p.pj.villages x.d = true) := Lib.hid (by unfold agreeB; rw [decide_eq_true hvm]; rfl)
              clear hvm
              have HY : Hid (chK p.pj bs (k + 1) = chK p.pj bs k ++ [yv]) := Lib.hid (by rw [chK_at HXD.out, chV_yes HK0.out HAG.out HYV.out])
              have HO := Lib.hid (own_below HF.out.2.2 (newer_allocH wx (.cells #[vi (yv)] 3)))
              have HN := Lib.hid (newer_trans HF.out.1 (newer_allocH wx (.cells #[vi (yv)] 3)))
              have HBX := Lib.hid (HF.out.2.1.alloc (.cells #[vi (yv)] 3))
              have HNW := Lib.hid (World.news_of_block (Whole.made wx 3 #[vi (yv)]))
              have hbs := HF.out.1.size
              have hml := chK_len p.pj bs k
              have hwn := HPO.out.wn
              have hwg := HSZ.out
              obtain ⟨hi0, hz0, hz1, hz2⟩ := HI.out
              clear HF
              go_wp2_with (at_builtin; go_loud ((refine wpList_append_lies _ rfl (.tmp 58) (.tmp 64) 25 rfl w.heap.size 3 i0 (.int .i64 0) 1 8 Try.underlying25 hi0 hz0 hz1 hz2 rfl (by omega) _ (chK p.pj bs k).length _ rfl HO.out ⟨wx.heap.size, 0, none⟩ 1 1 [vi (yv)] rfl rfl HNW.out (by simp [Value.oneCell']) (by omega) (by unfold maxLen; omega) (by omega) (by simp; omega) (wx.heap.size + 1) (by simp) ?_); intro gg cp2 w2 hown2 hgrow2 hat2 hlt2; have HG := Lib.hid (And.intro hown2 (And.intro (HN.out.grown hgrow2 HN.out.size (own_ge HO.out)) (HBX.out.grown hgrow2 (own_ne HO.out HBX.out (by decide)).symm))); clear hown2 hgrow2 hat2 hlt2 hi0 hz0 hz1 hz2 hbs))
              go_roundw
              case rel =>
                refine ⟨k + 1, by omega, by go_num, HG.out.2.1, HG.out.2.2, ?_⟩
                rw [HY.out, List.length_append, List.flatMap_append]
                exact HG.out.1
              case measure => simp [intOf]; omega
            · have hvb := HWB.out.2.2.2.1
              obtain ⟨vk, hvk⟩ : ∃ vk : Nat, x.d.village = vk := ⟨x.d.village.toNat, by omega⟩
              obtain ⟨b, hb⟩ := get_of_lt (l := p.vs) (k := vk) (by omega)
              have i1 : (vk : Int) < p.vs.length := by omega
              have iz0 : (0 : Int) ≤ (vk : Int) := by omega
              obtain ⟨b5, o5, e5, _, v0⟩ := rowB (HOK.out.next HF.out.1).vs hb
              rw [hvk] at d4
              rw [e5] at x4
              have HAG : Hid (agreeB p.pj.villages x.d = b) := Lib.hid (by
                unfold agreeB
                rw [decide_eq_false hvm, Bool.false_or, show p.pj.villages = p.vs from rfl, hvk, Int.toNat_natCast, hb]
                rfl)
              clear hvm hvb hvk hb e5
              cases b with
              | false =>

                have HY : Hid (chK p.pj bs (k + 1) = chK p.pj bs k ++ [-1]) := Lib.hid (by rw [chK_at HXD.out, chV_noA HAG.out])
                have HO := Lib.hid (own_below HF.out.2.2 (newer_allocH wx (.cells #[vi (-1)] 3)))
                have HN := Lib.hid (newer_trans HF.out.1 (newer_allocH wx (.cells #[vi (-1)] 3)))
                have HBX := Lib.hid (HF.out.2.1.alloc (.cells #[vi (-1)] 3))
                have HNW := Lib.hid (World.news_of_block (Whole.made wx 3 #[vi (-1)]))
                have hbs := HF.out.1.size
                have hml := chK_len p.pj bs k
                have hwn := HPO.out.wn
                have hwg := HSZ.out
                obtain ⟨hi0, hz0, hz1, hz2⟩ := HI.out
                clear HF
                go_wp2_with (at_builtin; go_loud ((refine wpList_append_lies _ rfl (.tmp 55) (.tmp 56) 25 rfl w.heap.size 3 i0 (.int .i64 0) 1 8 Try.underlying25 hi0 hz0 hz1 hz2 rfl (by omega) _ (chK p.pj bs k).length _ rfl HO.out ⟨wx.heap.size, 0, none⟩ 1 1 [vi (-1)] rfl rfl HNW.out (by simp [Value.oneCell']) (by omega) (by unfold maxLen; omega) (by omega) (by simp; omega) (wx.heap.size + 1) (by simp) ?_); intro gg cp2 w2 hown2 hgrow2 hat2 hlt2; have HG := Lib.hid (And.intro hown2 (And.intro (HN.out.grown hgrow2 HN.out.size (own_ge HO.out)) (HBX.out.grown hgrow2 (own_ne HO.out HBX.out (by decide)).symm))); clear hown2 hgrow2 hat2 hlt2 hi0 hz0 hz1 hz2 hbs))
                go_roundw
                case rel =>
                  refine ⟨k + 1, by omega, by go_num, HG.out.2.1, HG.out.2.2, ?_⟩
                  rw [HY.out, List.length_append, List.flatMap_append]
                  exact HG.out.1
                case measure => simp [intOf]; omega
              | true =>

                have HY : Hid (chK p.pj bs (k + 1) = chK p.pj bs k ++ [yv]) := Lib.hid (by rw [chK_at HXD.out, chV_yes HK0.out HAG.out HYV.out])
                have HO := Lib.hid (own_below HF.out.2.2 (newer_allocH wx (.cells #[vi (yv)] 3)))
                have HN := Lib.hid (newer_trans HF.out.1 (newer_allocH wx (.cells #[vi (yv)] 3)))
                have HBX := Lib.hid (HF.out.2.1.alloc (.cells #[vi (yv)] 3))
                have HNW := Lib.hid (World.news_of_block (Whole.made wx 3 #[vi (yv)]))
                have hbs := HF.out.1.size
                have hml := chK_len p.pj bs k
                have hwn := HPO.out.wn
                have hwg := HSZ.out
                obtain ⟨hi0, hz0, hz1, hz2⟩ := HI.out
                clear HF
                go_wp2_with (at_builtin; go_loud ((refine wpList_append_lies _ rfl (.tmp 58) (.tmp 64) 25 rfl w.heap.size 3 i0 (.int .i64 0) 1 8 Try.underlying25 hi0 hz0 hz1 hz2 rfl (by omega) _ (chK p.pj bs k).length _ rfl HO.out ⟨wx.heap.size, 0, none⟩ 1 1 [vi (yv)] rfl rfl HNW.out (by simp [Value.oneCell']) (by omega) (by unfold maxLen; omega) (by omega) (by simp; omega) (wx.heap.size + 1) (by simp) ?_); intro gg cp2 w2 hown2 hgrow2 hat2 hlt2; have HG := Lib.hid (And.intro hown2 (And.intro (HN.out.grown hgrow2 HN.out.size (own_ge HO.out)) (HBX.out.grown hgrow2 (own_ne HO.out HBX.out (by decide)).symm))); clear hown2 hgrow2 hat2 hlt2 hi0 hz0 hz1 hz2 hbs))
                go_roundw
                case rel =>
                  refine ⟨k + 1, by omega, by go_num, HG.out.2.1, HG.out.2.2, ?_⟩
                  rw [HY.out, List.length_append, List.flatMap_append]
                  exact HG.out.1
                case measure => simp [intOf]; omega
    · obtain rfl : k = p.ws.length := by omega
      have hkn : ¬ ((p.ws.length : Int) < p.ws.length) := by omega
      obtain ⟨A2, c2, rfl⟩ := own_form hown
      have HF := Lib.hid (And.intro hbw hown)
      clear hbw hown hbx
      go_wp2_with fail
      go_ret
      exact ⟨⟨A2, ⟨c2, rfl⟩, row_of_own (enc := intL) (size := 1) (by omega) (fun _ => rfl) HF.out.2⟩, HF.out.1⟩
end Go.Proofs.Ytpnpnfjhjjdmgaa
