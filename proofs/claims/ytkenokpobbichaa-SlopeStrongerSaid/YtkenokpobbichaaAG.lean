/- The factor and the span of a surface, by the reference. -/
import Derived.Test.YtkenokpobbichaaAF
namespace Go.Proofs.Ytkenokpobbichaa
open Go.RowKit Go.Shelf Go.Deep

set_option maxRecDepth 100000 in
set_option maxHeartbeats 2000000 in
theorem refFactor_any (s : Sm) (u : Su) (k0 : Nat) (l : List Nat) (tl : List Rl) (A : Option Addr) (ct : Nat) (w : World) (hok : SmOk s w) (hs : SdOk s.sd) (hu : SuOk u w) (hf : u.frm = k0) (hl : u.beds = l.map fun x : Nat => (x : Int)) (hsf : SurfB s.sd.n s.cs.length s.sd.K k0 l)
    (htr : Row rlL 3 w w.heap.size A tl) (htl : tl.length = l.length) (htb : ∀ y ∈ tl, rlB y = true) :
    Calls Try.prog 48 #[smV s, suV u, .slice A tl.length ct] w fun e w' => e = .returned (vi (refF (hK (bedsL s.sd.cols k0 l) (fun i => tl.getD i ⟨0, 0, 0⟩) l.length) (dK (bedsL s.sd.cols k0 l) l.length))) ∧ newer w w' := by
  have hcl : s.cs.length ≤ 12 := by have h1 := hs.cols; rw [sd_len] at h1; omega
  have hul : u.beds.length = l.length := by rw [hl]; simp
  have hll : 1 ≤ l.length := by have h1 := hsf.1; have h2 := (hd_ok hs false).K0; omega
  obtain ⟨y0, hy0⟩ := get_of_lt (l := s.cs) (k := 0) (by have := hsf.2.1; omega)
  obtain ⟨b1, o1, ea, _, _⟩ := rowC hok.cs hy0
  obtain ⟨b2, o2, eu, _⟩ := row1k hu (k := 0) (by omega)
  have hnw : newer w ((w.alloc (.cells (smC s) 24)).alloc (.cells (suC u) 27)) := newer_trans (newer_allocH _ _) (newer_allocH _ _)
  have hxb := (Whole.made w 24 (smC s)).alloc (.cells (suC u) 27)
  have hub := Whole.made (w.alloc (.cells (smC s) 24)) 27 (suC u)
  rw [World.size_alloc] at hub
  have H0 := Lib.hid (And.intro hnw (And.intro hxb hub))
  have HEA := Lib.hid (And.intro ea eu)
  have HOK := Lib.hid hok
  have HU := Lib.hid hu
  have HSD := Lib.hid hs
  have HSF := Lib.hid (And.intro hsf (And.intro hf (And.intro hl hul)))
  have hkl : k0 + l.length ≤ s.cs.length := hsf.2.1
  obtain ⟨y1, hy1⟩ := get_of_lt (l := tl) (k := 0) (by omega)
  obtain ⟨bt, ot, et, _, _⟩ := row3 htr hy1
  subst et
  have HTR := Lib.hid htr
  have HTB := Lib.hid (And.intro htb htl)
  have HBO := Lib.hid (bedsL_ok hs hsf.2.2 hsf.2.1)
  obtain ⟨bs, hbs⟩ : ∃ bs, bs = bedsL s.sd.cols k0 l := ⟨_, rfl⟩
  have hbl : bs.length = l.length := by rw [hbs]; exact bedsL_len _ _ _
  have HBS := Lib.hid hbs
  rw [← hbs] at HBO ⊢
  obtain ⟨tr, htr2⟩ : ∃ tr : Nat → Rl, tr = fun i => tl.getD i ⟨0, 0, 0⟩ := ⟨_, rfl⟩
  have HTT := Lib.hid htr2
  rw [← htr2]
  obtain ⟨H, hH⟩ : ∃ H, H = hK bs tr l.length := ⟨_, rfl⟩
  obtain ⟨D, hD⟩ : ∃ D, D = dK bs l.length := ⟨_, rfl⟩
  rw [← hH, ← hD]
  have HHD := Lib.hid (And.intro hH hD)
  have HTRB : Hid (∀ i, i < l.length → rlB (tr i) = true) := Lib.hid (fun i hi => by
    obtain ⟨y, hy⟩ := get_of_lt (l := tl) (k := i) (by omega)
    rw [htr2]
    have e : tl.getD i ⟨0, 0, 0⟩ = y := by simp [List.getD, hy]
    show rlB (tl.getD i ⟨0, 0, 0⟩) = true
    rw [e]
    exact htb y (List.mem_of_getElem? hy))
  clear hok hs hu hsf hf hl hul hnw hxb hub ea eu hy0 hy1 htr htb hbs htr2 hH hD
  go_enter Try.func48, Try.ntmps48
  go_wp2_with fail
  go_loopw [7, 8, 9] (fun s7 s8 s9 wr => ∃ k : Nat, s9 = vi k ∧ k ≤ l.length ∧ s7 = vi (hK bs tr k) ∧ s8 = vi (dK bs k) ∧ newer w wr ∧ Whole wr w.heap.size 24 (smC s) ∧ Whole wr (w.heap.size + 1) 27 (suC u)) (fun _ _ s9 _ => l.length - (intOf s9).toNat)
  case atStart => exact ⟨0, rfl, Nat.zero_le _, rfl, rfl, H0.out.1, H0.out.2.1, H0.out.2.2⟩
  case round =>
    obtain ⟨k, rfl, hk, rfl, rfl, hn, hx, hu2⟩ := hrel
    clear H0
    have HJ := Lib.hid (And.intro hn (And.intro hx hu2))
    have u1 := hu2.at 1 (v := .slice u.a u.beds.length u.c) rfl
    rw [HEA.out.2, HSF.out.2.2.2] at u1
    have hh := hK_bd (l := bs) (tr := tr) k (by omega) HBO.out (fun i hi => HTRB.out i (by omega))
    have hd := dK_bd (l := bs) k (by omega) HBO.out
    by_cases hlt : k < l.length
    · obtain ⟨b, hb⟩ := get_of_lt hlt
      have hbn := way_lt l k b HSF.out.1.2.2 hb
      obtain ⟨kk, hkk0⟩ : ∃ kk, kk = k0 + k := ⟨_, rfl⟩
      obtain ⟨x, hx1, hx2, hx3, hx4⟩ := bdAt_is HSD.out (k := kk) (j := b) (by omega) hbn
      obtain ⟨bd, hbd⟩ : ∃ bd, bd = bdAt s.sd.cols kk b := ⟨_, rfl⟩
      rw [← hbd] at hx2 hx4
      have HG := Lib.hid (And.intro (show (bedsL s.sd.cols k0 l)[k]? = some bd by rw [hbd, hkk0]; exact bedsL_get _ l k0 k b hb) hx4)
      obtain ⟨b3, o3, e3, _, cx⟩ := rowC (HOK.out.next hn).cs hx1
      rw [HEA.out.1] at e3
      obtain ⟨rfl, rfl⟩ : b1 = b3 ∧ o1 = o3 := by simpa using e3
      obtain ⟨b4, o4, e4, _, d0, d1, d2, d3, d4, d5, d6, d7⟩ := row8 ((HOK.out.next hn).bd x (List.mem_of_getElem? hx1)) hx2
      rw [e4] at cx
      obtain ⟨b5, o5, e5, p0⟩ := row1k (HU.out.next hn) (k := k) (by rw [HSF.out.2.2.2]; exact hlt)
      rw [HEA.out.2] at e5
      obtain ⟨rfl, rfl⟩ : b2 = b5 ∧ o2 = o5 := by simpa using e5
      have ep : iAt u.beds k = (b : Int) := by rw [HSF.out.2.2.1]; simp [iAt, hb]
      rw [ep] at p0
      have x0 := hx.at 0 (v := .slice s.a s.cs.length s.c) rfl
      rw [HEA.out.1] at x0
      have u0 := hu2.at 0 (v := vi u.frm) rfl
      rw [HSF.out.2.1] at u0
      have u1 := hu2.at 1 (v := .slice u.a u.beds.length u.c) rfl
      rw [HEA.out.2, HSF.out.2.2.2] at u1
      have hkc : (kk : Int) < s.cs.length := by omega
      have hbx : (b : Int) < x.beds.length := by omega
      have hki : (k : Int) < l.length := by omega
      have hk12 : k ≤ 12 := by omega
      have c22 : IntKind.i64.wrap ((k0 : Int) + (k : Int)) = (kk : Int) := by rw [show (k0 : Int) + k = kk by omega]; exact IntWalk.i64_in _ (by omega)
      clear hkk0 hx1 hx2 hx3 hx4 hbd e3 e4 e5 ep hbn hb
      obtain ⟨y, hy⟩ := get_of_lt (l := tl) (k := k) (by omega)
      have hyr : tr k = y := by rw [HTT.out]; simp [List.getD, hy]
      have hyb : rlB y = true := HTB.out.1 y (List.mem_of_getElem? hy)
      have hge : bs.getD k zeroBd = bd := by simp [List.getD, HBS.out, HG.out.1]
      obtain ⟨bt2, ot2, e9, _, c0, c1, c2⟩ := row3 (HTR.out.below hn) hy
      obtain ⟨rfl, rfl⟩ : bt = bt2 ∧ ot = ot2 := by simpa using e9
      have HS : Hid (hK bs tr (k + 1) = hK bs tr k + holdsN bd y ∧ dK bs (k + 1) = dK bs k + bd.drive) := Lib.hid (by simp only [hK, dK, hge, hyr]; exact ⟨trivial, trivial⟩)
      obtain ⟨h, hhe⟩ : ∃ h, h = hK bs tr k := ⟨_, rfl⟩
      obtain ⟨d, hde⟩ : ∃ d, d = dK bs k := ⟨_, rfl⟩
      have hbb := bdB_parts HG.out.2
      obtain ⟨y1, y2, y3⟩ := rlB_parts hyb
      have hhb := (holds_bd (b := bd) (x := y) hbb.2.1 y1 y2 y3.1).2.2
      have HH := Lib.hid (fun W => refHolds_any bd y W hbb.2.1 y1 y2 y3)
      rw [← hhe] at hh HS ⊢
      rw [← hde] at hd HS ⊢
      obtain ⟨hb, hhb2⟩ : ∃ hb, hb = holdsN bd y := ⟨_, rfl⟩
      rw [← hhb2] at HH HS hhb
      have HC : Hid (IntKind.i64.wrap (h + hb) = h + hb ∧ IntKind.i64.wrap (d + bd.drive) = d + bd.drive) := Lib.hid ⟨IntWalk.i64_in _ (by omega), IntWalk.i64_in _ (by omega)⟩
      have hkt : (k : Int) < tl.length := by omega
      have HCC := Lib.hid (And.intro c0 (And.intro c1 c2))
      have hdr := hbb.1
      clear hhe hde hy hyr hyb hge y1 y2 y3 hhb2 e9 c0 c1 c2 hbb hn hx hu2 hh hhb
      go_upto_region 5 with fail
      refine wp_words (by kernel_rfl) (region_told 16 (by kernel_rfl) (by kernel_rfl) (fun W => Below wr.heap.size wr W) newer (pickD [vIs (.pointer (some ⟨w.heap.size, 0, none⟩)), vIs (.slice (some ⟨b1, o1, none⟩) s.cs.length s.c), vIs (.pointer (some ⟨(w.heap.size + 1), 0, none⟩)), vIs (.int .i64 k0), vIs (.int .i64 k), vIs (.int .i64 kk), vIs (.pointer (some ⟨b1, o1 + kk, none⟩)), vIs (.slice (some ⟨b4, o4, none⟩) x.beds.length x.cp), vIs (.pointer (some ⟨(w.heap.size + 1), 1, none⟩)), vIs (.slice (some ⟨b2, o2, none⟩) l.length u.c), vIs (.int .i64 k), vIs (.pointer (some ⟨b2, o2 + k, none⟩)), vIs (.int .i64 b), vIs (.pointer (some ⟨b4, o4 + b * 8, none⟩)), vIs (bdV bd), vNew wr.heap.size 69 zeroX]) (fun h k => newer_trans h k) (pickD_stable _ ⟨vIs_st, vIs_st, vIs_st, vIs_st, vIs_st, vIs_st, vIs_st, vIs_st, vIs_st, vIs_st, vIs_st, vIs_st, vIs_st, vIs_st, vIs_st, vNew_st, trivial⟩) (Below.refl _ wr).drew (Below.refl _ _) ?_ ?_)
      · refine ⟨?_, ?_, ?_, ?_, ?_, ?_, ?_, ?_, ?_, ?_, ?_, ?_, ?_, ?_, ?_, ?_, trivial⟩
        · intro a W hG hR hO hp
          have h3 := hO.slot 3 (by kernel_rfl)
          refine wp_yields (v := .pointer (some ⟨w.heap.size, 0, none⟩)) ?_ ⟨_, rfl, rfl, Below.refl _ _, hG⟩
          simp [slotOf] at h3
          simp [execOp, go_sem, h3]
        · intro a W hG hR hO hp
          have h18 : slotOf a 18 = .pointer (some ⟨w.heap.size, 0, none⟩) := hp.1
          have c0 := keep_cell x0 hG
          refine wp_yields (v := .slice (some ⟨b1, o1, none⟩) s.cs.length s.c) ?_ ⟨_, rfl, rfl, Below.refl _ _, hG⟩
          simp [slotOf] at h18
          simp [execOp, go_sem, h18, c0]
        · intro a W hG hR hO hp
          have h4 := hO.slot 4 (by kernel_rfl)
          refine wp_yields (v := .pointer (some ⟨(w.heap.size + 1), 0, none⟩)) ?_ ⟨_, rfl, rfl, Below.refl _ _, hG⟩
          simp [slotOf] at h4
          simp [execOp, go_sem, h4]
        · intro a W hG hR hO hp
          have h20 : slotOf a 20 = .pointer (some ⟨(w.heap.size + 1), 0, none⟩) := hp.1
          have c0 := keep_cell u0 hG
          refine wp_yields (v := .int .i64 k0) ?_ ⟨_, rfl, rfl, Below.refl _ _, hG⟩
          simp [slotOf] at h20
          simp [execOp, go_sem, h20, c0]
        · intro a W hG hR hO hp
          have h9 := hO.slot 9 (by kernel_rfl)
          refine wp_yields (v := .int .i64 k) ?_ ⟨_, rfl, rfl, Below.refl _ _, hG⟩
          simp [slotOf] at h9
          simp [execOp, go_sem, h9]
        · intro a W hG hR hO hp
          have h21 : slotOf a 21 = .int .i64 k0 := hp.1
          have h22 : slotOf a 22 = .int .i64 k := hp.2.1
          refine wp_yields (v := .int .i64 kk) ?_ ⟨_, rfl, rfl, Below.refl _ _, hG⟩
          simp [slotOf] at h21 h22
          simp [execOp, go_sem, h21, h22, c22]
        · intro a W hG hR hO hp
          have h19 : slotOf a 19 = .slice (some ⟨b1, o1, none⟩) s.cs.length s.c := hp.1
          have h23 : slotOf a 23 = .int .i64 kk := hp.2.1
          refine wp_yields (v := .pointer (some ⟨b1, o1 + kk, none⟩)) ?_ ⟨_, rfl, rfl, Below.refl _ _, hG⟩
          simp [slotOf] at h19 h23
          simp [execOp, go_sem, h19, h23, hkc]
        · intro a W hG hR hO hp
          have h24 : slotOf a 24 = .pointer (some ⟨b1, o1 + kk, none⟩) := hp.1
          have c0 := keep_cell cx hG
          refine wp_yields (v := .slice (some ⟨b4, o4, none⟩) x.beds.length x.cp) ?_ ⟨_, rfl, rfl, Below.refl _ _, hG⟩
          simp [slotOf] at h24
          simp [execOp, go_sem, h24, c0]
        · intro a W hG hR hO hp
          have h4 := hO.slot 4 (by kernel_rfl)
          refine wp_yields (v := .pointer (some ⟨(w.heap.size + 1), 1, none⟩)) ?_ ⟨_, rfl, rfl, Below.refl _ _, hG⟩
          simp [slotOf] at h4
          simp [execOp, go_sem, h4]
        · intro a W hG hR hO hp
          have h26 : slotOf a 26 = .pointer (some ⟨(w.heap.size + 1), 1, none⟩) := hp.1
          have c0 := keep_cell u1 hG
          refine wp_yields (v := .slice (some ⟨b2, o2, none⟩) l.length u.c) ?_ ⟨_, rfl, rfl, Below.refl _ _, hG⟩
          simp [slotOf] at h26
          simp [execOp, go_sem, h26, c0]
        · intro a W hG hR hO hp
          have h9 := hO.slot 9 (by kernel_rfl)
          refine wp_yields (v := .int .i64 k) ?_ ⟨_, rfl, rfl, Below.refl _ _, hG⟩
          simp [slotOf] at h9
          simp [execOp, go_sem, h9]
        · intro a W hG hR hO hp
          have h27 : slotOf a 27 = .slice (some ⟨b2, o2, none⟩) l.length u.c := hp.1
          have h28 : slotOf a 28 = .int .i64 k := hp.2.1
          refine wp_yields (v := .pointer (some ⟨b2, o2 + k, none⟩)) ?_ ⟨_, rfl, rfl, Below.refl _ _, hG⟩
          simp [slotOf] at h27 h28
          simp [execOp, go_sem, h27, h28, hki]
        · intro a W hG hR hO hp
          have h29 : slotOf a 29 = .pointer (some ⟨b2, o2 + k, none⟩) := hp.1
          have c0 := keep_cell p0 hG
          refine wp_yields (v := .int .i64 b) ?_ ⟨_, rfl, rfl, Below.refl _ _, hG⟩
          simp [slotOf] at h29
          simp [execOp, go_sem, h29, c0]
        · intro a W hG hR hO hp
          have h25 : slotOf a 25 = .slice (some ⟨b4, o4, none⟩) x.beds.length x.cp := hp.1
          have h30 : slotOf a 30 = .int .i64 b := hp.2.1
          refine wp_yields (v := .pointer (some ⟨b4, o4 + b * 8, none⟩)) ?_ ⟨_, rfl, rfl, Below.refl _ _, hG⟩
          simp [slotOf] at h25 h30
          simp [execOp, go_sem, h25, h30, hbx]
        · intro a W hG hR hO hp
          have h31 : slotOf a 31 = .pointer (some ⟨b4, o4 + b * 8, none⟩) := hp.1
          have c0 := keep_cell d0 hG
          have c1 := keep_cell d1 hG
          have c2 := keep_cell d2 hG
          have c3 := keep_cell d3 hG
          have c4 := keep_cell d4 hG
          have c5 := keep_cell d5 hG
          have c6 := keep_cell d6 hG
          have c7 := keep_cell d7 hG
          refine wp_yields (v := bdV bd) ?_ ⟨_, rfl, rfl, Below.refl _ _, hG⟩
          simp [slotOf] at h31
          simp [execOp, go_sem, h31, c0, c1, c2, c3, c4, c5, c6, c7]
        · intro a W hG hR hO hp
          refine wp_makes (v := .pointer (some ⟨W.heap.size, 0, none⟩)) (W' := W.alloc (.cells zeroX 69)) ?_ ⟨_, rfl, ⟨_, rfl, hG.size, Whole.made _ _ _⟩, newer_allocH _ _, below_next hG (newer_allocH _ _)⟩
          skip
          simp [execOp, go_sem, zeroX]
      · intro wz hG hR
        rintro _ rfl _ rfl _ rfl _ rfl _ rfl _ rfl _ rfl _ rfl _ rfl _ rfl _ rfl _ rfl _ rfl _ rfl _ rfl _ ⟨g, rfl, hg, hW⟩
        change wpList _ _ _ _ _ _
        simp only [Act.put, List.setIfInBounds_toArray, List.set_cons_zero, List.set_cons_succ, List.drop_succ_cons, List.drop_zero]
        have hbox := (put8 hW bd)
        have hgr := (put8_grown wz g bd)
        have HB5 : Hid (newer wr ((((((((wz.setCell ⟨g, 0, none⟩ (vi bd.drive)).setCell ⟨g, 1, none⟩ (vi bd.normal)).setCell ⟨g, 2, none⟩ (vi bd.fr.lo)).setCell ⟨g, 3, none⟩ (vi bd.fr.hi)).setCell ⟨g, 4, none⟩ (vi bd.co.lo)).setCell ⟨g, 5, none⟩ (vi bd.co.hi)).setCell ⟨g, 6, none⟩ (vi bd.wa.lo)).setCell ⟨g, 7, none⟩ (vi bd.wa.hi)) ∧ Whole ((((((((wz.setCell ⟨g, 0, none⟩ (vi bd.drive)).setCell ⟨g, 1, none⟩ (vi bd.normal)).setCell ⟨g, 2, none⟩ (vi bd.fr.lo)).setCell ⟨g, 3, none⟩ (vi bd.fr.hi)).setCell ⟨g, 4, none⟩ (vi bd.co.lo)).setCell ⟨g, 5, none⟩ (vi bd.co.hi)).setCell ⟨g, 6, none⟩ (vi bd.wa.lo)).setCell ⟨g, 7, none⟩ (vi bd.wa.hi)) g 69 (bdC bd)) := Lib.hid ⟨Below.trans hG (below_of_grown hgr hg hG.size), hbox⟩
        have e0 := hW.at 0 (v := vi 0) rfl
        have f0 := hW.free 0
        have e1 := hW.at 1 (v := vi 0) rfl
        have f1 := hW.free 1
        have e2 := hW.at 2 (v := vi 0) rfl
        have f2 := hW.free 2
        have e3 := hW.at 3 (v := vi 0) rfl
        have f3 := hW.free 3
        have e4 := hW.at 4 (v := vi 0) rfl
        have f4 := hW.free 4
        have e5 := hW.at 5 (v := vi 0) rfl
        have f5 := hW.free 5
        have e6 := hW.at 6 (v := vi 0) rfl
        have f6 := hW.free 6
        have e7 := hW.at 7 (v := vi 0) rfl
        have f7 := hW.free 7
        clear hbox hgr hG hR hW x0 u0 u1 cx p0 d0 d1 d2 d3 d4 d5 d6 d7 c22
        go_upto_region 6 with fail
        refine genQ (fun X => newer wr X ∧ Whole X g 69 (bdC bd)) HB5.out ?_
        clear HB5 e0 e1 e2 e3 e4 e5 e6 e7 f0 f1 f2 f3 f4 f5 f6 f7 wz
        rintro w6 ⟨q1, q2⟩
        have z0 := q2.at 0 (v := vi bd.drive) rfl
        have z1 := q2.at 1 (v := vi bd.normal) rfl
        have z2 := q2.at 2 (v := vi bd.fr.lo) rfl
        have z3 := q2.at 3 (v := vi bd.fr.hi) rfl
        have z4 := q2.at 4 (v := vi bd.co.lo) rfl
        have z5 := q2.at 5 (v := vi bd.co.hi) rfl
        have z6 := q2.at 6 (v := vi bd.wa.lo) rfl
        have z7 := q2.at 7 (v := vi bd.wa.hi) rfl
        have r0 := keep_cell HCC.out.1 q1
        have r1 := keep_cell HCC.out.2.1 q1
        have r2 := keep_cell HCC.out.2.2 q1
        have H6 := Lib.hid (And.intro (newer_trans HJ.out.1 q1) (And.intro (HJ.out.2.1.below q1 HJ.out.2.1.lt) (HJ.out.2.2.below q1 HJ.out.2.2.lt)))
        clear q1 q2 HJ HCC
        refine wp_words (by kernel_rfl) (region_told 8 (by kernel_rfl) (by kernel_rfl) (fun W => Below w6.heap.size w6 W) newer (pickD [vIs (vi h), vIs (bdV bd), vIs (.slice (some ⟨bt, ot, none⟩) tl.length ct), vIs (vi k), vIs (.pointer (some ⟨bt, ot + k * 3, none⟩)), vIs (rlV y), vIs (vi hb), vIs (vi (h + hb))]) (fun h k => newer_trans h k) (pickD_stable _ ⟨vIs_st, vIs_st, vIs_st, vIs_st, vIs_st, vIs_st, vIs_st, vIs_st, trivial⟩) (Below.refl _ w6).drew (Below.refl _ _) ?_ ?_)
        · refine ⟨?_, ?_, ?_, ?_, ?_, ?_, ?_, ?_, trivial⟩
          · intro a W hG hR hO hp
            have h7 := hO.slot 7 (by kernel_rfl)
            refine wp_yields (v := vi h) ?_ ⟨_, rfl, rfl, Below.refl _ _, hG⟩
            simp [slotOf] at h7
            simp [execOp, go_sem, h7]
          · intro a W hG hR hO hp
            have h10 := hO.slot 10 (by kernel_rfl)
            have c0 := keep_cell z0 hG
            have c1 := keep_cell z1 hG
            have c2 := keep_cell z2 hG
            have c3 := keep_cell z3 hG
            have c4 := keep_cell z4 hG
            have c5 := keep_cell z5 hG
            have c6 := keep_cell z6 hG
            have c7 := keep_cell z7 hG
            refine wp_yields (v := bdV bd) ?_ ⟨_, rfl, rfl, Below.refl _ _, hG⟩
            simp [slotOf] at h10
            simp [execOp, go_sem, h10, c0, c1, c2, c3, c4, c5, c6, c7]
          · intro a W hG hR hO hp
            have h2 := hO.slot 2 (by kernel_rfl)
            refine wp_yields (v := .slice (some ⟨bt, ot, none⟩) tl.length ct) ?_ ⟨_, rfl, rfl, Below.refl _ _, hG⟩
            simp [slotOf] at h2
            simp [execOp, go_sem, h2]
          · intro a W hG hR hO hp
            have h9 := hO.slot 9 (by kernel_rfl)
            refine wp_yields (v := vi k) ?_ ⟨_, rfl, rfl, Below.refl _ _, hG⟩
            simp [slotOf] at h9
            simp [execOp, go_sem, h9]
          · intro a W hG hR hO hp
            have h35 : slotOf a 35 = .slice (some ⟨bt, ot, none⟩) tl.length ct := hp.1
            have h36 : slotOf a 36 = vi k := hp.2.1
            refine wp_yields (v := .pointer (some ⟨bt, ot + k * 3, none⟩)) ?_ ⟨_, rfl, rfl, Below.refl _ _, hG⟩
            simp [slotOf] at h35 h36
            simp [execOp, go_sem, h35, h36, hkt]
          · intro a W hG hR hO hp
            have h37 : slotOf a 37 = .pointer (some ⟨bt, ot + k * 3, none⟩) := hp.1
            have c0 := keep_cell r0 hG
            have c1 := keep_cell r1 hG
            have c2 := keep_cell r2 hG
            refine wp_yields (v := rlV y) ?_ ⟨_, rfl, rfl, Below.refl _ _, hG⟩
            simp [slotOf] at h37
            simp [execOp, go_sem, h37, c0, c1, c2]
          · intro a W hG hR hO hp
            have h34 : slotOf a 34 = bdV bd := hp.1
            have h38 : slotOf a 38 = rlV y := hp.2.1
            refine wp_enters (f := 80) (args := #[bdV bd, rlV y]) ?_ ((HH.out W).mono ?_)
            · simp [slotOf] at h34 h38
              simp [go_sem, h34, h38]
            · rintro e w' ⟨rfl, hb⟩
              exact ⟨_, rfl, _, rfl, rfl, hb, below_next hG hb⟩
          · intro a W hG hR hO hp
            have h33 : slotOf a 33 = vi h := hp.1
            have h39 : slotOf a 39 = vi hb := hp.2.1
            refine wp_yields (v := vi (h + hb)) ?_ ⟨_, rfl, rfl, Below.refl _ _, hG⟩
            simp [slotOf] at h33 h39
            simp [execOp, go_sem, h33, h39, HC.out.1]
        · intro wy hG hR
          rintro _ rfl _ rfl _ rfl _ rfl _ rfl _ rfl _ rfl _ rfl
          change wpList _ _ _ _ _ _
          simp only [Act.put, List.setIfInBounds_toArray, List.set_cons_zero, List.set_cons_succ, List.drop_succ_cons, List.drop_zero]
          have H7 := Lib.hid (And.intro (newer_trans H6.out.1 hG) (And.intro (H6.out.2.1.below hG H6.out.2.1.lt) (H6.out.2.2.below hG H6.out.2.2.lt)))
          have z0 := keep_cell z0 hG
          clear hG hR z1 z2 z3 z4 z5 z6 z7 r0 r1 r2 H6
          go_wp2_with fail
          refine ⟨⟨k + 1, rfl, by omega, by rw [HS.out.1], by rw [HS.out.2], H7.out.1, H7.out.2.1, H7.out.2.2⟩, ?_⟩
          simp [intOf]
          omega
    · obtain rfl : k = l.length := by omega
      clear hx hu2
      rw [← HHD.out.1] at hh ⊢
      rw [← HHD.out.2] at hd ⊢
      by_cases hd1 : D < 1
      · have HF : Hid (refF H D = -1) := Lib.hid (by unfold refF; rw [if_pos hd1])
        go_wp2_with fail
        go_ret
        exact ⟨by rw [HF.out] <;> rfl, hn⟩
      · by_cases hmn : 1000 * H / D < 10000
        · have HF : Hid (refF H D = 1000 * H / D) := Lib.hid (by unfold refF factorN mnI; rw [if_neg hd1, if_pos hmn])
          go_wp2_with fail
          go_ret
          exact ⟨by rw [HF.out] <;> rfl, hn⟩
        · have HF : Hid (refF H D = 10000) := Lib.hid (by unfold refF factorN mnI; rw [if_neg hd1, if_neg hmn])
          go_wp2_with fail
          go_ret
          exact ⟨by rw [HF.out] <;> rfl, hn⟩

end Go.Proofs.Ytkenokpobbichaa
