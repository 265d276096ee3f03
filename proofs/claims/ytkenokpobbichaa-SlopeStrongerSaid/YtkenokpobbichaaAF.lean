/- The truths of a surface in which all columns hold least, or most, by the reference. -/
import Derived.Test.YtkenokpobbichaaAE
namespace Go.Proofs.Ytkenokpobbichaa
open Go.RowKit Go.Shelf Go.Deep

def zeroX : Array Value := #[vi 0, vi 0, vi 0, vi 0, vi 0, vi 0, vi 0, vi 0]
/-- A bed written into a box. -/
theorem put8 {W : World} {g : Nat} {t : TypeId} (h : Whole W g t zeroX) (bd : Bd) : Whole ((((((((W.setCell ⟨g, 0, none⟩ (vi bd.drive)).setCell ⟨g, 1, none⟩ (vi bd.normal)).setCell ⟨g, 2, none⟩ (vi bd.fr.lo)).setCell ⟨g, 3, none⟩ (vi bd.fr.hi)).setCell ⟨g, 4, none⟩ (vi bd.co.lo)).setCell ⟨g, 5, none⟩ (vi bd.co.hi)).setCell ⟨g, 6, none⟩ (vi bd.wa.lo)).setCell ⟨g, 7, none⟩ (vi bd.wa.hi)) g t (bdC bd) := by
  have h8 := ((((((((h.set 0 (vi bd.drive)).set 1 (vi bd.normal)).set 2 (vi bd.fr.lo)).set 3 (vi bd.fr.hi)).set 4 (vi bd.co.lo)).set 5 (vi bd.co.hi)).set 6 (vi bd.wa.lo)).set 7 (vi bd.wa.hi))
  simpa only [zeroX, List.setIfInBounds_toArray, List.set_cons_zero, List.set_cons_succ] using h8
theorem put8_grown (W : World) (g : Nat) (bd : Bd) : W.grownBy ((((((((W.setCell ⟨g, 0, none⟩ (vi bd.drive)).setCell ⟨g, 1, none⟩ (vi bd.normal)).setCell ⟨g, 2, none⟩ (vi bd.fr.lo)).setCell ⟨g, 3, none⟩ (vi bd.fr.hi)).setCell ⟨g, 4, none⟩ (vi bd.co.lo)).setCell ⟨g, 5, none⟩ (vi bd.co.hi)).setCell ⟨g, 6, none⟩ (vi bd.wa.lo)).setCell ⟨g, 7, none⟩ (vi bd.wa.hi)) (some g) := grown_set (p := ⟨g, 7, none⟩) (grown_set (p := ⟨g, 6, none⟩) (grown_set (p := ⟨g, 5, none⟩) (grown_set (p := ⟨g, 4, none⟩) (grown_set (p := ⟨g, 3, none⟩) (grown_set (p := ⟨g, 2, none⟩) (grown_set (p := ⟨g, 1, none⟩) (grown_set (p := ⟨g, 0, none⟩) (grown_refl W _) (.inl rfl) _) (.inl rfl) _) (.inl rfl) _) (.inl rfl) _) (.inl rfl) _) (.inl rfl) _) (.inl rfl) _) (.inl rfl) _
theorem info_rl : (Try.prog.info? 125).map (fun i => (i.zero, i.size, i.bytes)) = some (some (.agg #[vi 0, vi 0, vi 0]), 3, 24) := by kernel_rfl
def refEnd (hi : Bool) : Nat := if hi then 78 else 79
set_option maxRecDepth 100000 in
set_option maxHeartbeats 2000000 in
theorem ends_any (s : Sm) (u : Su) (k0 : Nat) (l : List Nat) (hi : Bool) (w : World) (hok : SmOk s w) (hs : SdOk s.sd) (hu : SuOk u w) (hf : u.frm = k0) (hl : u.beds = l.map fun x : Nat => (x : Int)) (hsf : SurfB s.sd.n s.cs.length s.sd.K k0 l) :
    Calls Try.prog 45 #[smV s, suV u, .bool hi] w fun e w' => ∃ A c, e = .returned (.slice A l.length c) ∧ w'.ownsRow w.heap.size 125 3 (.slice A l.length c) l.length (((bedsL s.sd.cols k0 l).map (endR hi)).flatMap rlL) ∧ newer w w' := by
  have hcl : s.cs.length ≤ 12 := by have h1 := hs.cols; rw [sd_len] at h1; omega
  have hul : u.beds.length = l.length := by rw [hl]; simp
  have hll : 1 ≤ l.length := by have h1 := hsf.1; have h2 := (hd_ok hs false).K0; omega
  obtain ⟨y0, hy0⟩ := get_of_lt (l := s.cs) (k := 0) (by have := hsf.2.1; omega)
  obtain ⟨b1, o1, ea, _, _⟩ := rowC hok.cs hy0
  obtain ⟨b2, o2, eu, _⟩ := row1k hu (k := 0) (by omega)
  have hnw : newer w ((w.alloc (.cells (smC s) 24)).alloc (.cells (suC u) 27)) := newer_trans (newer_allocH _ _) (newer_allocH _ _)
  have hxb := (Whole.made w 24 (smC s)).alloc (.cells (suC u) 27)
  have hub := Whole.made (w.alloc (.cells (smC s) 24)) 27 (suC u)
  rw [World.size_alloc] at hub
  have H0 := Lib.hid (And.intro hnw (And.intro hxb hub))
  have HEA := Lib.hid (And.intro ea eu)
  have HOK := Lib.hid hok
  have HU := Lib.hid hu
  have HSD := Lib.hid hs
  have HSF := Lib.hid (And.intro hsf (And.intro hf (And.intro hl hul)))
  have hkl : k0 + l.length ≤ s.cs.length := hsf.2.1
  obtain ⟨i0, hi0, hz0, hz1, hz2⟩ := info_parts info_rl
  have HI := Lib.hid (And.intro hi0 (And.intro hz0 (And.intro hz1 hz2)))
  clear hok hs hu hsf hf hl hul hnw hxb hub ea eu hy0 hi0 hz0 hz1 hz2
  go_enter Try.func45, Try.ntmps45
  go_wp2_with fail
  go_loopw [7, 8] (fun s7 s8 wr => ∃ (k : Nat) (A : Option Addr) (c : Nat), s8 = vi k ∧ k ≤ l.length ∧ s7 = .slice A k c ∧ wr.ownsRow w.heap.size 125 3 (.slice A k c) k ((((bedsL s.sd.cols k0 l).map (endR hi)).take k).flatMap rlL) ∧ newer w wr ∧ Whole wr w.heap.size 24 (smC s) ∧ Whole wr (w.heap.size + 1) 27 (suC u)) (fun _ s8 _ => l.length - (intOf s8).toNat)
  case atStart => exact ⟨0, none, 0, rfl, Nat.zero_le _, rfl, ⟨rfl, .inl ⟨rfl, rfl⟩⟩, H0.out.1, H0.out.2.1, H0.out.2.2⟩
  case round =>
    obtain ⟨k, A, c, rfl, hk, rfl, hown, hn, hx, hu2⟩ := hrel
    clear H0
    have HJ := Lib.hid (And.intro hown (And.intro hn (And.intro hx hu2)))
    have u1 := hu2.at 1 (v := .slice u.a u.beds.length u.c) rfl
    rw [HEA.out.2, HSF.out.2.2.2] at u1
    by_cases hlt : k < l.length
    · obtain ⟨b, hb⟩ := get_of_lt hlt
      have hbn := way_lt l k b HSF.out.1.2.2 hb
      obtain ⟨kk, hkk0⟩ : ∃ kk, kk = k0 + k := ⟨_, rfl⟩
      obtain ⟨x, hx1, hx2, hx3, hx4⟩ := bdAt_is HSD.out (k := kk) (j := b) (by omega) hbn
      obtain ⟨bd, hbd⟩ : ∃ bd, bd = bdAt s.sd.cols kk b := ⟨_, rfl⟩
      rw [← hbd] at hx2 hx4
      have HG := Lib.hid (And.intro (show (bedsL s.sd.cols k0 l)[k]? = some bd by rw [hbd, hkk0]; exact bedsL_get _ l k0 k b hb) hx4)
      obtain ⟨b3, o3, e3, _, cx⟩ := rowC (HOK.out.next hn).cs hx1
      rw [HEA.out.1] at e3
      obtain ⟨rfl, rfl⟩ : b1 = b3 ∧ o1 = o3 := by simpa using e3
      obtain ⟨b4, o4, e4, _, d0, d1, d2, d3, d4, d5, d6, d7⟩ := row8 ((HOK.out.next hn).bd x (List.mem_of_getElem? hx1)) hx2
      rw [e4] at cx
      obtain ⟨b5, o5, e5, p0⟩ := row1k (HU.out.next hn) (k := k) (by rw [HSF.out.2.2.2]; exact hlt)
      rw [HEA.out.2] at e5
      obtain ⟨rfl, rfl⟩ : b2 = b5 ∧ o2 = o5 := by simpa using e5
      have ep : iAt u.beds k = (b : Int) := by rw [HSF.out.2.2.1]; simp [iAt, hb]
      rw [ep] at p0
      have x0 := hx.at 0 (v := .slice s.a s.cs.length s.c) rfl
      rw [HEA.out.1] at x0
      have u0 := hu2.at 0 (v := vi u.frm) rfl
      rw [HSF.out.2.1] at u0
      have u1 := hu2.at 1 (v := .slice u.a u.beds.length u.c) rfl
      rw [HEA.out.2, HSF.out.2.2.2] at u1
      have hkc : (kk : Int) < s.cs.length := by omega
      have hbx : (b : Int) < x.beds.length := by omega
      have hki : (k : Int) < l.length := by omega
      have hk12 : k ≤ 12 := by omega
      have c22 : IntKind.i64.wrap ((k0 : Int) + (k : Int)) = (kk : Int) := by rw [show (k0 : Int) + k = kk by omega]; exact IntWalk.i64_in _ (by omega)
      clear hkk0 hx1 hx2 hx3 hx4 hbd e3 e4 e5 ep hbn hb
      clear hown hn hx hu2
      go_upto_region 5 with fail
      refine wp_words (by kernel_rfl) (region_told 16 (by kernel_rfl) (by kernel_rfl) (fun W => Below wr.heap.size wr W) newer (pickD [vIs (.pointer (some ⟨w.heap.size, 0, none⟩)), vIs (.slice (some ⟨b1, o1, none⟩) s.cs.length s.c), vIs (.pointer (some ⟨(w.heap.size + 1), 0, none⟩)), vIs (.int .i64 k0), vIs (.int .i64 k), vIs (.int .i64 kk), vIs (.pointer (some ⟨b1, o1 + kk, none⟩)), vIs (.slice (some ⟨b4, o4, none⟩) x.beds.length x.cp), vIs (.pointer (some ⟨(w.heap.size + 1), 1, none⟩)), vIs (.slice (some ⟨b2, o2, none⟩) l.length u.c), vIs (.int .i64 k), vIs (.pointer (some ⟨b2, o2 + k, none⟩)), vIs (.int .i64 b), vIs (.pointer (some ⟨b4, o4 + b * 8, none⟩)), vIs (bdV bd), vNew wr.heap.size 69 zeroX]) (fun h k => newer_trans h k) (pickD_stable _ ⟨vIs_st, vIs_st, vIs_st, vIs_st, vIs_st, vIs_st, vIs_st, vIs_st, vIs_st, vIs_st, vIs_st, vIs_st, vIs_st, vIs_st, vIs_st, vNew_st, trivial⟩) (Below.refl _ wr).drew (Below.refl _ _) ?_ ?_)
      · refine ⟨?_, ?_, ?_, ?_, ?_, ?_, ?_, ?_, ?_, ?_, ?_, ?_, ?_, ?_, ?_, ?_, trivial⟩
        · intro a W hG hR hO hp
          have h3 := hO.slot 3 (by kernel_rfl)
          refine wp_yields (v := .pointer (some ⟨w.heap.size, 0, none⟩)) ?_ ⟨_, rfl, rfl, Below.refl _ _, hG⟩
          simp [slotOf] at h3
          simp [execOp, go_sem, h3]
        · intro a W hG hR hO hp
          have h17 : slotOf a 17 = .pointer (some ⟨w.heap.size, 0, none⟩) := hp.1
          have c0 := keep_cell x0 hG
          refine wp_yields (v := .slice (some ⟨b1, o1, none⟩) s.cs.length s.c) ?_ ⟨_, rfl, rfl, Below.refl _ _, hG⟩
          simp [slotOf] at h17
          simp [execOp, go_sem, h17, c0]
        · intro a W hG hR hO hp
          have h4 := hO.slot 4 (by kernel_rfl)
          refine wp_yields (v := .pointer (some ⟨(w.heap.size + 1), 0, none⟩)) ?_ ⟨_, rfl, rfl, Below.refl _ _, hG⟩
          simp [slotOf] at h4
          simp [execOp, go_sem, h4]
        · intro a W hG hR hO hp
          have h19 : slotOf a 19 = .pointer (some ⟨(w.heap.size + 1), 0, none⟩) := hp.1
          have c0 := keep_cell u0 hG
          refine wp_yields (v := .int .i64 k0) ?_ ⟨_, rfl, rfl, Below.refl _ _, hG⟩
          simp [slotOf] at h19
          simp [execOp, go_sem, h19, c0]
        · intro a W hG hR hO hp
          have h8 := hO.slot 8 (by kernel_rfl)
          refine wp_yields (v := .int .i64 k) ?_ ⟨_, rfl, rfl, Below.refl _ _, hG⟩
          simp [slotOf] at h8
          simp [execOp, go_sem, h8]
        · intro a W hG hR hO hp
          have h20 : slotOf a 20 = .int .i64 k0 := hp.1
          have h21 : slotOf a 21 = .int .i64 k := hp.2.1
          refine wp_yields (v := .int .i64 kk) ?_ ⟨_, rfl, rfl, Below.refl _ _, hG⟩
          simp [slotOf] at h20 h21
          simp [execOp, go_sem, h20, h21, c22]
        · intro a W hG hR hO hp
          have h18 : slotOf a 18 = .slice (some ⟨b1, o1, none⟩) s.cs.length s.c := hp.1
          have h22 : slotOf a 22 = .int .i64 kk := hp.2.1
          refine wp_yields (v := .pointer (some ⟨b1, o1 + kk, none⟩)) ?_ ⟨_, rfl, rfl, Below.refl _ _, hG⟩
          simp [slotOf] at h18 h22
          simp [execOp, go_sem, h18, h22, hkc]
        · intro a W hG hR hO hp
          have h23 : slotOf a 23 = .pointer (some ⟨b1, o1 + kk, none⟩) := hp.1
          have c0 := keep_cell cx hG
          refine wp_yields (v := .slice (some ⟨b4, o4, none⟩) x.beds.length x.cp) ?_ ⟨_, rfl, rfl, Below.refl _ _, hG⟩
          simp [slotOf] at h23
          simp [execOp, go_sem, h23, c0]
        · intro a W hG hR hO hp
          have h4 := hO.slot 4 (by kernel_rfl)
          refine wp_yields (v := .pointer (some ⟨(w.heap.size + 1), 1, none⟩)) ?_ ⟨_, rfl, rfl, Below.refl _ _, hG⟩
          simp [slotOf] at h4
          simp [execOp, go_sem, h4]
        · intro a W hG hR hO hp
          have h25 : slotOf a 25 = .pointer (some ⟨(w.heap.size + 1), 1, none⟩) := hp.1
          have c0 := keep_cell u1 hG
          refine wp_yields (v := .slice (some ⟨b2, o2, none⟩) l.length u.c) ?_ ⟨_, rfl, rfl, Below.refl _ _, hG⟩
          simp [slotOf] at h25
          simp [execOp, go_sem, h25, c0]
        · intro a W hG hR hO hp
          have h8 := hO.slot 8 (by kernel_rfl)
          refine wp_yields (v := .int .i64 k) ?_ ⟨_, rfl, rfl, Below.refl _ _, hG⟩
          simp [slotOf] at h8
          simp [execOp, go_sem, h8]
        · intro a W hG hR hO hp
          have h26 : slotOf a 26 = .slice (some ⟨b2, o2, none⟩) l.length u.c := hp.1
          have h27 : slotOf a 27 = .int .i64 k := hp.2.1
          refine wp_yields (v := .pointer (some ⟨b2, o2 + k, none⟩)) ?_ ⟨_, rfl, rfl, Below.refl _ _, hG⟩
          simp [slotOf] at h26 h27
          simp [execOp, go_sem, h26, h27, hki]
        · intro a W hG hR hO hp
          have h28 : slotOf a 28 = .pointer (some ⟨b2, o2 + k, none⟩) := hp.1
          have c0 := keep_cell p0 hG
          refine wp_yields (v := .int .i64 b) ?_ ⟨_, rfl, rfl, Below.refl _ _, hG⟩
          simp [slotOf] at h28
          simp [execOp, go_sem, h28, c0]
        · intro a W hG hR hO hp
          have h24 : slotOf a 24 = .slice (some ⟨b4, o4, none⟩) x.beds.length x.cp := hp.1
          have h29 : slotOf a 29 = .int .i64 b := hp.2.1
          refine wp_yields (v := .pointer (some ⟨b4, o4 + b * 8, none⟩)) ?_ ⟨_, rfl, rfl, Below.refl _ _, hG⟩
          simp [slotOf] at h24 h29
          simp [execOp, go_sem, h24, h29, hbx]
        · intro a W hG hR hO hp
          have h30 : slotOf a 30 = .pointer (some ⟨b4, o4 + b * 8, none⟩) := hp.1
          have c0 := keep_cell d0 hG
          have c1 := keep_cell d1 hG
          have c2 := keep_cell d2 hG
          have c3 := keep_cell d3 hG
          have c4 := keep_cell d4 hG
          have c5 := keep_cell d5 hG
          have c6 := keep_cell d6 hG
          have c7 := keep_cell d7 hG
          refine wp_yields (v := bdV bd) ?_ ⟨_, rfl, rfl, Below.refl _ _, hG⟩
          simp [slotOf] at h30
          simp [execOp, go_sem, h30, c0, c1, c2, c3, c4, c5, c6, c7]
        · intro a W hG hR hO hp
          refine wp_makes (v := .pointer (some ⟨W.heap.size, 0, none⟩)) (W' := W.alloc (.cells zeroX 69)) ?_ ⟨_, rfl, ⟨_, rfl, hG.size, Whole.made _ _ _⟩, newer_allocH _ _, below_next hG (newer_allocH _ _)⟩
          skip
          simp [execOp, go_sem, zeroX]
      · intro wz hG hR
        rintro _ rfl _ rfl _ rfl _ rfl _ rfl _ rfl _ rfl _ rfl _ rfl _ rfl _ rfl _ rfl _ rfl _ rfl _ rfl _ ⟨g, rfl, hg, hW⟩
        change wpList _ _ _ _ _ _
        simp only [Act.put, List.setIfInBounds_toArray, List.set_cons_zero, List.set_cons_succ, List.drop_succ_cons, List.drop_zero]
        have hbox := (put8 hW bd)
        have hgr := (put8_grown wz g bd)
        have HB5 : Hid (newer wr ((((((((wz.setCell ⟨g, 0, none⟩ (vi bd.drive)).setCell ⟨g, 1, none⟩ (vi bd.normal)).setCell ⟨g, 2, none⟩ (vi bd.fr.lo)).setCell ⟨g, 3, none⟩ (vi bd.fr.hi)).setCell ⟨g, 4, none⟩ (vi bd.co.lo)).setCell ⟨g, 5, none⟩ (vi bd.co.hi)).setCell ⟨g, 6, none⟩ (vi bd.wa.lo)).setCell ⟨g, 7, none⟩ (vi bd.wa.hi)) ∧ Whole ((((((((wz.setCell ⟨g, 0, none⟩ (vi bd.drive)).setCell ⟨g, 1, none⟩ (vi bd.normal)).setCell ⟨g, 2, none⟩ (vi bd.fr.lo)).setCell ⟨g, 3, none⟩ (vi bd.fr.hi)).setCell ⟨g, 4, none⟩ (vi bd.co.lo)).setCell ⟨g, 5, none⟩ (vi bd.co.hi)).setCell ⟨g, 6, none⟩ (vi bd.wa.lo)).setCell ⟨g, 7, none⟩ (vi bd.wa.hi)) g 69 (bdC bd)) := Lib.hid ⟨Below.trans hG (below_of_grown hgr hg hG.size), hbox⟩
        have e0 := hW.at 0 (v := vi 0) rfl
        have e1 := hW.at 1 (v := vi 0) rfl
        have e2 := hW.at 2 (v := vi 0) rfl
        have e3 := hW.at 3 (v := vi 0) rfl
        have e4 := hW.at 4 (v := vi 0) rfl
        have e5 := hW.at 5 (v := vi 0) rfl
        have e6 := hW.at 6 (v := vi 0) rfl
        have e7 := hW.at 7 (v := vi 0) rfl
        have f0 := hW.free 0
        have f1 := hW.free 1
        have f2 := hW.free 2
        have f3 := hW.free 3
        have f4 := hW.free 4
        have f5 := hW.free 5
        have f6 := hW.free 6
        have f7 := hW.free 7
        clear hbox hgr hG hR hW x0 u0 u1 cx p0 d0 d1 d2 d3 d4 d5 d6 d7 c22
        go_upto_region 6 with fail
        refine genQ (fun X => newer wr X ∧ Whole X g 69 (bdC bd)) HB5.out ?_
        clear HB5 e0 e1 e2 e3 e4 e5 e6 e7 f0 f1 f2 f3 f4 f5 f6 f7 wz
        rintro w6 ⟨q1, q2⟩
        have z0 := q2.at 0 (v := vi bd.drive) rfl
        have z1 := q2.at 1 (v := vi bd.normal) rfl
        have z2 := q2.at 2 (v := vi bd.fr.lo) rfl
        have z3 := q2.at 3 (v := vi bd.fr.hi) rfl
        have z4 := q2.at 4 (v := vi bd.co.lo) rfl
        have z5 := q2.at 5 (v := vi bd.co.hi) rfl
        have z6 := q2.at 6 (v := vi bd.wa.lo) rfl
        have z7 := q2.at 7 (v := vi bd.wa.hi) rfl
        have H6 := Lib.hid (And.intro (own_below HJ.out.1 q1) (And.intro (newer_trans HJ.out.2.1 q1) (And.intro (HJ.out.2.2.1.below q1 HJ.out.2.2.1.lt) (HJ.out.2.2.2.below q1 HJ.out.2.2.2.lt))))
        have HGE := Lib.hid (show ((bedsL s.sd.cols k0 l).map (endR hi))[k]? = some (endR hi bd) by rw [List.getElem?_map, HG.out.1]; rfl)
        clear q1 q2 HJ
        cases hi with
        | false =>
          go_wp2_with fail
          refine (refLeast_any bd _).mono ?_
          rintro e w7 ⟨rfl, hb⟩
          obtain ⟨y, hy⟩ : ∃ y, y = endR false bd := ⟨_, rfl⟩
          rw [← hy] at HGE ⊢
          clear hy
          have hn8 := newer_allocH w7 (.cells (rlC y) 125)
          have hn9 := newer_trans hb hn8
          have H7 := Lib.hid (And.intro (own_below H6.out.1 hn9) (And.intro (newer_trans H6.out.2.1 hn9) (And.intro (H6.out.2.2.1.below hn9 H6.out.2.2.1.lt) (H6.out.2.2.2.below hn9 H6.out.2.2.2.lt))))
          have HWN := Lib.hid (World.news_of_block (Whole.made w7 125 (rlC y)))
          clear hb hn8 hn9 H6 z0 z1 z2 z3 z4 z5 z6 z7
          go_wp2_with (at_builtin; go_loud ((refine wpList_append_lies _ rfl (.tmp 38) (.tmp 41) 80 rfl w.heap.size 125 i0 (.agg #[vi 0, vi 0, vi 0]) 3 24 Try.underlying80 HI.out.1 HI.out.2.1 HI.out.2.2.1 HI.out.2.2.2 rfl (by omega) _ k _ rfl H7.out.1 ⟨w7.heap.size, 0, none⟩ 1 1 (rlL y) rfl rfl HWN.out (by simp [Value.oneCell']) (by omega) (by unfold maxLen; omega) (by omega) H7.out.2.1.size (w7.alloc (.cells (rlC y) 125)).heap.size rfl ?_); intro gg cp2 w2 hown2 hgrow2 hat2 hlt2; rw [← take_flat rlL _ k y HGE.out] at hown2; have HE := Lib.hid (And.intro hown2 (And.intro hgrow2 (own_ge H7.out.1))); clear hown2 hgrow2 hat2 hlt2))
          refine ⟨⟨k + 1, some ⟨gg, 0, none⟩, cp2, rfl, by omega, rfl, HE.out.1, ?_, ?_, ?_⟩, ?_⟩
          · exact below_grown (grown_trans' (grown_of_newer H7.out.2.1 _) HE.out.2.1) HE.out.2.2 (Nat.le_refl _)
          · exact H7.out.2.2.1.grown HE.out.2.1 (fun e => own_ne H7.out.1 H7.out.2.2.1 (by decide) e.symm)
          · exact H7.out.2.2.2.grown HE.out.2.1 (fun e => own_ne H7.out.1 H7.out.2.2.2 (by decide) e.symm)
          · simp [intOf]
            omega
        | true =>
          go_wp2_with fail
          refine (refMost_any bd _).mono ?_
          rintro e w7 ⟨rfl, hb⟩
          obtain ⟨y, hy⟩ : ∃ y, y = endR true bd := ⟨_, rfl⟩
          rw [← hy] at HGE ⊢
          clear hy
          have hn8 := newer_allocH w7 (.cells (rlC y) 125)
          have hn9 := newer_trans hb hn8
          have H7 := Lib.hid (And.intro (own_below H6.out.1 hn9) (And.intro (newer_trans H6.out.2.1 hn9) (And.intro (H6.out.2.2.1.below hn9 H6.out.2.2.1.lt) (H6.out.2.2.2.below hn9 H6.out.2.2.2.lt))))
          have HWN := Lib.hid (World.news_of_block (Whole.made w7 125 (rlC y)))
          clear hb hn8 hn9 H6 z0 z1 z2 z3 z4 z5 z6 z7
          go_wp2_with (at_builtin; go_loud ((refine wpList_append_lies _ rfl (.tmp 33) (.tmp 36) 80 rfl w.heap.size 125 i0 (.agg #[vi 0, vi 0, vi 0]) 3 24 Try.underlying80 HI.out.1 HI.out.2.1 HI.out.2.2.1 HI.out.2.2.2 rfl (by omega) _ k _ rfl H7.out.1 ⟨w7.heap.size, 0, none⟩ 1 1 (rlL y) rfl rfl HWN.out (by simp [Value.oneCell']) (by omega) (by unfold maxLen; omega) (by omega) H7.out.2.1.size (w7.alloc (.cells (rlC y) 125)).heap.size rfl ?_); intro gg cp2 w2 hown2 hgrow2 hat2 hlt2; rw [← take_flat rlL _ k y HGE.out] at hown2; have HE := Lib.hid (And.intro hown2 (And.intro hgrow2 (own_ge H7.out.1))); clear hown2 hgrow2 hat2 hlt2))
          refine ⟨⟨k + 1, some ⟨gg, 0, none⟩, cp2, rfl, by omega, rfl, HE.out.1, ?_, ?_, ?_⟩, ?_⟩
          · exact below_grown (grown_trans' (grown_of_newer H7.out.2.1 _) HE.out.2.1) HE.out.2.2 (Nat.le_refl _)
          · exact H7.out.2.2.1.grown HE.out.2.1 (fun e => own_ne H7.out.1 H7.out.2.2.1 (by decide) e.symm)
          · exact H7.out.2.2.2.grown HE.out.2.1 (fun e => own_ne H7.out.1 H7.out.2.2.2 (by decide) e.symm)
          · simp [intOf]
            omega
    · obtain rfl : k = l.length := by omega
      have HE := Lib.hid (show wr.ownsRow w.heap.size 125 3 (.slice A l.length c) l.length (((bedsL s.sd.cols k0 l).map (endR hi)).flatMap rlL) by
        have h1 := HJ.out.1
        rw [List.take_of_length_le (by rw [List.length_map, bedsL_len]; omega)] at h1
        exact h1)
      clear hown hx hu2
      go_wp2_with fail
      go_ret
      exact ⟨A, c, rfl, HE.out, hn⟩

end Go.Proofs.Ytkenokpobbichaa
