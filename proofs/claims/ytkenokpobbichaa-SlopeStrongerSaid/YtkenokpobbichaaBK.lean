/- A truth of a surface, by some words. -/
import Derived.Test.YtkenokpobbichaaBH
import Derived.Test.YtkenokpobbichaaBF
namespace Go.Proofs.Ytkenokpobbichaa
open Go.RowKit Go.Shelf Go.Deep

def w3C (f : Nat → Int) : Array Value := #[.int .u16 (f 0), .int .u16 (f 1), .int .u16 (f 2)]
theorem w3_set (f : Nat → Int) (v : Int) : ∀ k, k < 3 → (w3C f).setIfInBounds k (.int .u16 v) = w3C (fun j => if j = k then v else f j)
  | 0, _ => rfl
  | 1, _ => rfl
  | 2, _ => rfl
theorem w3_get (f : Nat → Int) : ∀ k, k < 3 → (w3C f)[k]? = some (.int .u16 (f k))
  | 0, _ => rfl
  | 1, _ => rfl
  | 2, _ => rfl
/-- A number of a range; a truth of a bed; a row with just this one. -/
def vRng (r : Rg) (v : Value) (_ : World) : Prop := ∃ n : Int, v = vi n ∧ r.lo ≤ n ∧ n ≤ r.hi
theorem vRng_st {r : Rg} : ∀ v W W', vRng r v W → newer W W' → vRng r v W' := fun _ _ _ h _ => h
def vPk (b : Bd) (v : Value) (_ : World) : Prop := ∃ y : Rl, v = rlV y ∧ fitB b y = true
theorem vPk_st {b : Bd} : ∀ v W W', vPk b v W → newer W W' → vPk b v W' := fun _ _ _ h _ => h
def vOneP (B : Nat) (b : Bd) (v : Value) (W : World) : Prop := ∃ nb y, v = .slice (some ⟨nb, 0, none⟩) 1 1 ∧ B ≤ nb ∧ Whole W nb 125 (rlC y) ∧ fitB b y = true
theorem vOneP_st {B : Nat} {b : Bd} : ∀ v W W', vOneP B b v W → newer W W' → vOneP B b v W' := fun _ _ _ ⟨nb, y, h1, h2, h3, h4⟩ hb => ⟨nb, y, h1, h2, h3.below hb h3.lt, h4⟩
/-- What lies in memory while a truth is made. -/
structure PkJ (s : Sm) (u : Su) (bs : List Bd) (k : Nat) (tl : List Rl) (A : Option Addr) (c : Nat) (w W : World) : Prop where
  nw : newer w W
  xb : Whole W w.heap.size 24 (smC s)
  ub : Whole W (w.heap.size + 1) 27 (suC u)
  own : W.ownsRow w.heap.size 125 3 (.slice A k c) k (tl.flatMap rlL)
  ln : tl.length = k
  fit : ∀ i, i < k → fitB (bs.getD i zeroBd) (tl.getD i ⟨0, 0, 0⟩) = true
theorem PkJ.next {s : Sm} {u : Su} {bs : List Bd} {k : Nat} {tl : List Rl} {A : Option Addr} {c : Nat} {w W W' : World} (h : PkJ s u bs k tl A c w W) (hb : newer W W') : PkJ s u bs k tl A c w W' := ⟨newer_trans h.nw hb, h.xb.below hb h.xb.lt, h.ub.below hb h.ub.lt, own_below h.own hb, h.ln, h.fit⟩
theorem info_rl125 : (Try.prog.info? 125).map (fun i => (i.zero, i.size, i.bytes)) = some (some (.agg #[vi 0, vi 0, vi 0]), 3, 24) := by kernel_rfl
set_option maxRecDepth 100000 in
set_option maxHeartbeats 2000000 in
theorem picked_any (s : Sm) (u : Su) (k0 : Nat) (l : List Nat) (ws : List Hlf) (HA : Option Addr) (hc : Nat) (w : World) (hok : SmOk s w) (hs : SdOk s.sd) (hu : SuOk u w) (hf : u.frm = k0) (hl : u.beds = l.map fun x : Nat => (x : Int)) (hsf : SurfB s.sd.n s.cs.length s.sd.K k0 l) (hwr : Row hwL 1 w w.heap.size HA ws) :
    Calls Try.prog 44 #[smV s, suV u, .slice HA ws.length hc] w fun e w' => ∃ (tl : List Rl) (A : Option Addr) (c : Nat), e = .returned (.slice A tl.length c) ∧ Row rlL 3 w' w'.heap.size A tl ∧ fitsA (bedsL s.sd.cols k0 l) tl = true ∧ newer w w' := by
  have hcl : s.cs.length ≤ 12 := by have h1 := hs.cols; rw [sd_len] at h1; omega
  have hul : u.beds.length = l.length := by rw [hl]; simp
  have hll : 1 ≤ l.length := by have h1 := hsf.1; have h2 := (hd_ok hs false).K0; omega
  obtain ⟨y0, hy0⟩ := get_of_lt (l := s.cs) (k := 0) (by have := hsf.2.1; omega)
  obtain ⟨b1, o1, ea, _, _⟩ := rowC hok.cs hy0
  obtain ⟨b2, o2, eu, _⟩ := row1k hu (k := 0) (by omega)
  have hnw : newer w ((w.alloc (.cells (smC s) 24)).alloc (.cells (suC u) 27)) := newer_trans (newer_allocH _ _) (newer_allocH _ _)
  have hxb := (Whole.made w 24 (smC s)).alloc (.cells (suC u) 27)
  have hub := Whole.made (w.alloc (.cells (smC s) 24)) 27 (suC u)
  rw [World.size_alloc] at hub
  have H0 := Lib.hid (And.intro hnw (And.intro hxb hub))
  have HEA := Lib.hid (And.intro ea eu)
  have HOK := Lib.hid hok
  have HU := Lib.hid hu
  have HSD := Lib.hid hs
  have HSF := Lib.hid (And.intro hsf (And.intro hf (And.intro hl hul)))
  have hkl : k0 + l.length ≤ s.cs.length := hsf.2.1
  have HWR := Lib.hid hwr
  obtain ⟨i0, hi0, hz0, hz1, hz2⟩ := info_parts info_rl125
  have HI := Lib.hid (And.intro hi0 (And.intro hz0 (And.intro hz1 hz2)))
  obtain ⟨bs, hbs⟩ : ∃ bs, bs = bedsL s.sd.cols k0 l := ⟨_, rfl⟩
  have hbl : bs.length = l.length := by rw [hbs]; exact bedsL_len _ _ _
  have HBS := Lib.hid (And.intro hbs hbl)
  rw [← hbs]
  clear hok hs hu hsf hf hl hul hnw hxb hub ea eu hy0 hi0 hz0 hz1 hz2 hwr hbs hbl
  go_enter Try.func44, Try.ntmps44
  go_wp2_with fail
  go_loopw [7, 8] (fun s7 s8 wr => ∃ (k : Nat) (tl : List Rl) (A : Option Addr) (c : Nat), s8 = vi k ∧ k ≤ l.length ∧ s7 = .slice A k c ∧ PkJ s u bs k tl A c w wr) (fun _ s8 _ => l.length - (intOf s8).toNat)
  case atStart => exact ⟨0, [], none, 0, rfl, Nat.zero_le _, rfl, H0.out.1, H0.out.2.1, H0.out.2.2, ⟨rfl, .inl ⟨rfl, rfl⟩⟩, rfl, fun i h => absurd h (by omega)⟩
  case round =>
    obtain ⟨k, tl, A, c, rfl, hk, rfl, hj⟩ := hrel
    clear H0
    have HJ := Lib.hid hj
    have hn := hj.nw
    have hx := hj.xb
    have hu2 := hj.ub
    clear hj
    have u1 := hu2.at 1 (v := .slice u.a u.beds.length u.c) rfl
    rw [HEA.out.2, HSF.out.2.2.2] at u1
    by_cases hlt : k < l.length
    · obtain ⟨b, hb⟩ := get_of_lt hlt
      have hbn := way_lt l k b HSF.out.1.2.2 hb
      obtain ⟨kk, hkk0⟩ : ∃ kk, kk = k0 + k := ⟨_, rfl⟩
      obtain ⟨x, hx1, hx2, hx3, hx4⟩ := bdAt_is HSD.out (k := kk) (j := b) (by omega) hbn
      obtain ⟨bd, hbd⟩ : ∃ bd, bd = bdAt s.sd.cols kk b := ⟨_, rfl⟩
      rw [← hbd] at hx2 hx4
      have HG := Lib.hid (And.intro (show (bedsL s.sd.cols k0 l)[k]? = some bd by rw [hbd, hkk0]; exact bedsL_get _ l k0 k b hb) hx4)
      obtain ⟨b3, o3, e3, _, cx⟩ := rowC (HOK.out.next hn).cs hx1
      rw [HEA.out.1] at e3
      obtain ⟨rfl, rfl⟩ : b1 = b3 ∧ o1 = o3 := by simpa using e3
      obtain ⟨b4, o4, e4, _, d0, d1, d2, d3, d4, d5, d6, d7⟩ := row8 ((HOK.out.next hn).bd x (List.mem_of_getElem? hx1)) hx2
      rw [e4] at cx
      obtain ⟨b5, o5, e5, p0⟩ := row1k (HU.out.next hn) (k := k) (by rw [HSF.out.2.2.2]; exact hlt)
      rw [HEA.out.2] at e5
      obtain ⟨rfl, rfl⟩ : b2 = b5 ∧ o2 = o5 := by simpa using e5
      have ep : iAt u.beds k = (b : Int) := by rw [HSF.out.2.2.1]; simp [iAt, hb]
      rw [ep] at p0
      have x0 := hx.at 0 (v := .slice s.a s.cs.length s.c) rfl
      rw [HEA.out.1] at x0
      have u0 := hu2.at 0 (v := vi u.frm) rfl
      rw [HSF.out.2.1] at u0
      have u1 := hu2.at 1 (v := .slice u.a u.beds.length u.c) rfl
      rw [HEA.out.2, HSF.out.2.2.2] at u1
      have hkc : (kk : Int) < s.cs.length := by omega
      have hbx : (b : Int) < x.beds.length := by omega
      have hki : (k : Int) < l.length := by omega
      have hk12 : k ≤ 12 := by omega
      have c22 : IntKind.i64.wrap ((k0 : Int) + (k : Int)) = (kk : Int) := by rw [show (k0 : Int) + k = kk by omega]; exact IntWalk.i64_in _ (by omega)
      clear hkk0 hx1 hx2 hx3 hx4 hbd e3 e4 e5 ep hbn hb
      clear hn hx hu2
      go_upto_region 5 with fail
      refine wp_words (by kernel_rfl) (region_told 16 (by kernel_rfl) (by kernel_rfl) (fun W => Below wr.heap.size wr W) newer (pickD [vIs (.pointer (some ⟨w.heap.size, 0, none⟩)), vIs (.slice (some ⟨b1, o1, none⟩) s.cs.length s.c), vIs (.pointer (some ⟨(w.heap.size + 1), 0, none⟩)), vIs (.int .i64 k0), vIs (.int .i64 k), vIs (.int .i64 kk), vIs (.pointer (some ⟨b1, o1 + kk, none⟩)), vIs (.slice (some ⟨b4, o4, none⟩) x.beds.length x.cp), vIs (.pointer (some ⟨(w.heap.size + 1), 1, none⟩)), vIs (.slice (some ⟨b2, o2, none⟩) l.length u.c), vIs (.int .i64 k), vIs (.pointer (some ⟨b2, o2 + k, none⟩)), vIs (.int .i64 b), vIs (.pointer (some ⟨b4, o4 + b * 8, none⟩)), vIs (bdV bd), vNew wr.heap.size 69 zeroX]) (fun h k => newer_trans h k) (pickD_stable _ ⟨vIs_st, vIs_st, vIs_st, vIs_st, vIs_st, vIs_st, vIs_st, vIs_st, vIs_st, vIs_st, vIs_st, vIs_st, vIs_st, vIs_st, vIs_st, vNew_st, trivial⟩) (Below.refl _ wr).drew (Below.refl _ _) ?_ ?_)
      · refine ⟨?_, ?_, ?_, ?_, ?_, ?_, ?_, ?_, ?_, ?_, ?_, ?_, ?_, ?_, ?_, ?_, trivial⟩
        · intro a W hG hR hO hp
          have h3 := hO.slot 3 (by kernel_rfl)
          refine wp_yields (v := .pointer (some ⟨w.heap.size, 0, none⟩)) ?_ ⟨_, rfl, rfl, Below.refl _ _, hG⟩
          simp [slotOf] at h3
          simp [execOp, go_sem, h3]
        · intro a W hG hR hO hp
          have h19 : slotOf a 19 = .pointer (some ⟨w.heap.size, 0, none⟩) := hp.1
          have c0 := keep_cell x0 hG
          refine wp_yields (v := .slice (some ⟨b1, o1, none⟩) s.cs.length s.c) ?_ ⟨_, rfl, rfl, Below.refl _ _, hG⟩
          simp [slotOf] at h19
          simp [execOp, go_sem, h19, c0]
        · intro a W hG hR hO hp
          have h4 := hO.slot 4 (by kernel_rfl)
          refine wp_yields (v := .pointer (some ⟨(w.heap.size + 1), 0, none⟩)) ?_ ⟨_, rfl, rfl, Below.refl _ _, hG⟩
          simp [slotOf] at h4
          simp [execOp, go_sem, h4]
        · intro a W hG hR hO hp
          have h21 : slotOf a 21 = .pointer (some ⟨(w.heap.size + 1), 0, none⟩) := hp.1
          have c0 := keep_cell u0 hG
          refine wp_yields (v := .int .i64 k0) ?_ ⟨_, rfl, rfl, Below.refl _ _, hG⟩
          simp [slotOf] at h21
          simp [execOp, go_sem, h21, c0]
        · intro a W hG hR hO hp
          have h8 := hO.slot 8 (by kernel_rfl)
          refine wp_yields (v := .int .i64 k) ?_ ⟨_, rfl, rfl, Below.refl _ _, hG⟩
          simp [slotOf] at h8
          simp [execOp, go_sem, h8]
        · intro a W hG hR hO hp
          have h22 : slotOf a 22 = .int .i64 k0 := hp.1
          have h23 : slotOf a 23 = .int .i64 k := hp.2.1
          refine wp_yields (v := .int .i64 kk) ?_ ⟨_, rfl, rfl, Below.refl _ _, hG⟩
          simp [slotOf] at h22 h23
          simp [execOp, go_sem, h22, h23, c22]
        · intro a W hG hR hO hp
          have h20 : slotOf a 20 = .slice (some ⟨b1, o1, none⟩) s.cs.length s.c := hp.1
          have h24 : slotOf a 24 = .int .i64 kk := hp.2.1
          refine wp_yields (v := .pointer (some ⟨b1, o1 + kk, none⟩)) ?_ ⟨_, rfl, rfl, Below.refl _ _, hG⟩
          simp [slotOf] at h20 h24
          simp [execOp, go_sem, h20, h24, hkc]
        · intro a W hG hR hO hp
          have h25 : slotOf a 25 = .pointer (some ⟨b1, o1 + kk, none⟩) := hp.1
          have c0 := keep_cell cx hG
          refine wp_yields (v := .slice (some ⟨b4, o4, none⟩) x.beds.length x.cp) ?_ ⟨_, rfl, rfl, Below.refl _ _, hG⟩
          simp [slotOf] at h25
          simp [execOp, go_sem, h25, c0]
        · intro a W hG hR hO hp
          have h4 := hO.slot 4 (by kernel_rfl)
          refine wp_yields (v := .pointer (some ⟨(w.heap.size + 1), 1, none⟩)) ?_ ⟨_, rfl, rfl, Below.refl _ _, hG⟩
          simp [slotOf] at h4
          simp [execOp, go_sem, h4]
        · intro a W hG hR hO hp
          have h27 : slotOf a 27 = .pointer (some ⟨(w.heap.size + 1), 1, none⟩) := hp.1
          have c0 := keep_cell u1 hG
          refine wp_yields (v := .slice (some ⟨b2, o2, none⟩) l.length u.c) ?_ ⟨_, rfl, rfl, Below.refl _ _, hG⟩
          simp [slotOf] at h27
          simp [execOp, go_sem, h27, c0]
        · intro a W hG hR hO hp
          have h8 := hO.slot 8 (by kernel_rfl)
          refine wp_yields (v := .int .i64 k) ?_ ⟨_, rfl, rfl, Below.refl _ _, hG⟩
          simp [slotOf] at h8
          simp [execOp, go_sem, h8]
        · intro a W hG hR hO hp
          have h28 : slotOf a 28 = .slice (some ⟨b2, o2, none⟩) l.length u.c := hp.1
          have h29 : slotOf a 29 = .int .i64 k := hp.2.1
          refine wp_yields (v := .pointer (some ⟨b2, o2 + k, none⟩)) ?_ ⟨_, rfl, rfl, Below.refl _ _, hG⟩
          simp [slotOf] at h28 h29
          simp [execOp, go_sem, h28, h29, hki]
        · intro a W hG hR hO hp
          have h30 : slotOf a 30 = .pointer (some ⟨b2, o2 + k, none⟩) := hp.1
          have c0 := keep_cell p0 hG
          refine wp_yields (v := .int .i64 b) ?_ ⟨_, rfl, rfl, Below.refl _ _, hG⟩
          simp [slotOf] at h30
          simp [execOp, go_sem, h30, c0]
        · intro a W hG hR hO hp
          have h26 : slotOf a 26 = .slice (some ⟨b4, o4, none⟩) x.beds.length x.cp := hp.1
          have h31 : slotOf a 31 = .int .i64 b := hp.2.1
          refine wp_yields (v := .pointer (some ⟨b4, o4 + b * 8, none⟩)) ?_ ⟨_, rfl, rfl, Below.refl _ _, hG⟩
          simp [slotOf] at h26 h31
          simp [execOp, go_sem, h26, h31, hbx]
        · intro a W hG hR hO hp
          have h32 : slotOf a 32 = .pointer (some ⟨b4, o4 + b * 8, none⟩) := hp.1
          have c0 := keep_cell d0 hG
          have c1 := keep_cell d1 hG
          have c2 := keep_cell d2 hG
          have c3 := keep_cell d3 hG
          have c4 := keep_cell d4 hG
          have c5 := keep_cell d5 hG
          have c6 := keep_cell d6 hG
          have c7 := keep_cell d7 hG
          refine wp_yields (v := bdV bd) ?_ ⟨_, rfl, rfl, Below.refl _ _, hG⟩
          simp [slotOf] at h32
          simp [execOp, go_sem, h32, c0, c1, c2, c3, c4, c5, c6, c7]
        · intro a W hG hR hO hp
          refine wp_makes (v := .pointer (some ⟨W.heap.size, 0, none⟩)) (W' := W.alloc (.cells zeroX 69)) ?_ ⟨_, rfl, ⟨_, rfl, hG.size, Whole.made _ _ _⟩, newer_allocH _ _, below_next hG (newer_allocH _ _)⟩
          skip
          simp [execOp, go_sem, zeroX]
      · intro wz hG hR
        rintro _ rfl _ rfl _ rfl _ rfl _ rfl _ rfl _ rfl _ rfl _ rfl _ rfl _ rfl _ rfl _ rfl _ rfl _ rfl _ ⟨g, rfl, hg, hW⟩
        change wpList _ _ _ _ _ _
        simp only [Act.put, List.setIfInBounds_toArray, List.set_cons_zero, List.set_cons_succ, List.drop_succ_cons, List.drop_zero]
        have hbox := (put8 hW bd)
        have hgr := (put8_grown wz g bd)
        have HB5 : Hid (newer wr ((((((((wz.setCell ⟨g, 0, none⟩ (vi bd.drive)).setCell ⟨g, 1, none⟩ (vi bd.normal)).setCell ⟨g, 2, none⟩ (vi bd.fr.lo)).setCell ⟨g, 3, none⟩ (vi bd.fr.hi)).setCell ⟨g, 4, none⟩ (vi bd.co.lo)).setCell ⟨g, 5, none⟩ (vi bd.co.hi)).setCell ⟨g, 6, none⟩ (vi bd.wa.lo)).setCell ⟨g, 7, none⟩ (vi bd.wa.hi)) ∧ Whole ((((((((wz.setCell ⟨g, 0, none⟩ (vi bd.drive)).setCell ⟨g, 1, none⟩ (vi bd.normal)).setCell ⟨g, 2, none⟩ (vi bd.fr.lo)).setCell ⟨g, 3, none⟩ (vi bd.fr.hi)).setCell ⟨g, 4, none⟩ (vi bd.co.lo)).setCell ⟨g, 5, none⟩ (vi bd.co.hi)).setCell ⟨g, 6, none⟩ (vi bd.wa.lo)).setCell ⟨g, 7, none⟩ (vi bd.wa.hi)) g 69 (bdC bd)) := Lib.hid ⟨Below.trans hG (below_of_grown hgr hg hG.size), hbox⟩
        have e0 := hW.at 0 (v := vi 0) rfl
        have f0 := hW.free 0
        have e1 := hW.at 1 (v := vi 0) rfl
        have f1 := hW.free 1
        have e2 := hW.at 2 (v := vi 0) rfl
        have f2 := hW.free 2
        have e3 := hW.at 3 (v := vi 0) rfl
        have f3 := hW.free 3
        have e4 := hW.at 4 (v := vi 0) rfl
        have f4 := hW.free 4
        have e5 := hW.at 5 (v := vi 0) rfl
        have f5 := hW.free 5
        have e6 := hW.at 6 (v := vi 0) rfl
        have f6 := hW.free 6
        have e7 := hW.at 7 (v := vi 0) rfl
        have f7 := hW.free 7
        clear hbox hgr hG hR hW x0 u0 u1 cx p0 d0 d1 d2 d3 d4 d5 d6 d7 c22
        go_upto_region 6 with fail
        refine genQ (fun X => newer wr X ∧ Whole X g 69 (bdC bd)) HB5.out ?_
        clear HB5 e0 e1 e2 e3 e4 e5 e6 e7 f0 f1 f2 f3 f4 f5 f6 f7 wz
        rintro w6 ⟨q1, q2⟩
        have e7 := newer_allocH w6 (.cells #[.int .u16 0, .int .u16 0, .int .u16 0] 126)
        have H6 := Lib.hid (And.intro (HJ.out.next (newer_trans q1 e7)) (And.intro (q2.below e7 q2.lt) (Whole.made w6 126 #[.int .u16 0, .int .u16 0, .int .u16 0])))
        obtain ⟨ab, hab⟩ : ∃ ab, ab = w6.heap.size := ⟨_, rfl⟩
        have HLO : Hid (w.heap.size ≤ ab) := Lib.hid (by rw [hab]; exact (newer_trans HJ.out.nw q1).size)
        have hge : bs.getD k zeroBd = bd := by simp [List.getD, HBS.out.1, HG.out.1]
        have HGE := Lib.hid hge
        clear q1 q2 e7 HJ hge
        go_wp2_with fail
        rw [← hab] at H6 ⊢
        clear hab
        go_loopw [11] (fun s11 wr => ∃ (j : Nat) (f : Nat → Int), j ≤ 3 ∧ s11 = vi j ∧ (∀ i, 0 ≤ f i ∧ f i ≤ 65535) ∧ PkJ s u bs k tl A c w wr ∧ Whole wr g 69 (bdC bd) ∧ Whole wr ab 126 (w3C f)) (fun s11 _ => 3 - (intOf s11).toNat)
        case atStart => exact ⟨0, fun _ => 0, by omega, rfl, fun i => ⟨Int.le_refl _, by show (0 : Int) ≤ 65535; omega⟩, H6.out.1, H6.out.2.1, H6.out.2.2⟩
        case round =>
          obtain ⟨j, f, hj3, rfl, hfb, p1, p2, p3⟩ := hrel
          clear H6
          have HFB := Lib.hid hfb
          have HQ := Lib.hid (And.intro p1 (And.intro p2 p3))
          clear hfb p1 p2 p3
          obtain ⟨wx, rfl⟩ : ∃ wx : World, wx = wr := ⟨_, rfl⟩
          have fin : Hid (j = 3 ∨ ws = [] → True) := Lib.hid (fun _ => trivial)
          by_cases hgo : j < 3 ∧ ws ≠ []
          · obtain ⟨hj2, hwn⟩ := hgo
            have hl0 : 0 < ws.length := List.length_pos_iff.2 hwn
            have hl0i : (0 : Int) < ws.length := by omega
            have hj2i : (j : Int) < 3 := by omega
            obtain ⟨a3, ha3⟩ : ∃ a : Nat, a = 3 * k + j := ⟨_, rfl⟩
            obtain ⟨r, hr⟩ : ∃ r, r = a3 % ws.length := ⟨_, rfl⟩
            have hrl : r < ws.length := by rw [hr]; exact Nat.mod_lt _ hl0
            have hrn : (r : Int) < ws.length := by omega
            have em : IntKind.i64.wrap (3 * (k : Int)) = 3 * (k : Int) := IntWalk.i64_in _ (by omega)
            have ea : IntKind.i64.wrap (3 * (k : Int) + j) = a3 := by rw [show (a3 : Int) = 3 * (k : Int) + j by omega]; exact IntWalk.i64_in _ (by omega)
            have er : (a3 : Int).tmod ws.length = r := by rw [hr, Int.tmod_eq_emod_of_nonneg (by omega)]; exact (Int.natCast_emod _ _).symm
            have hcz : ¬ ((ws.length : Int) = 0) := by omega
            have hwb : ¬ (ws = []) := hwn
            obtain ⟨y, hy⟩ := get_of_lt hrl
            obtain ⟨hb1, ho1, eh, _, cb⟩ := row_half (HWR.out.below HQ.out.1.nw) hy
            have v0 := HQ.out.2.2.at j (w3_get f j hj2)
            have vf := HQ.out.2.2.free j
            have HS : Hid (PkJ s u bs k tl A c w (wx.setCell ⟨ab, j, none⟩ (.int .u16 y.n)) ∧ Whole (wx.setCell ⟨ab, j, none⟩ (.int .u16 y.n)) g 69 (bdC bd) ∧ Whole (wx.setCell ⟨ab, j, none⟩ (.int .u16 y.n)) ab 126 (w3C fun i => if i = j then y.n else f i)) := Lib.hid (by
              have hne : w.heap.size ≠ ab := HQ.out.1.xb.ne HQ.out.2.2 (by decide)
              have hne1 : w.heap.size + 1 ≠ ab := HQ.out.1.ub.ne HQ.out.2.2 (by decide)
              have hne2 : g ≠ ab := HQ.out.2.1.ne HQ.out.2.2 (by decide)
              have h3 := HQ.out.2.2.set j (.int .u16 y.n)
              rw [w3_set f y.n j hj2] at h3
              exact ⟨⟨HQ.out.1.nw.setCell (p := ⟨ab, j, none⟩) HLO.out _, HQ.out.1.xb.far (p := ⟨ab, j, none⟩) hne _, HQ.out.1.ub.far (p := ⟨ab, j, none⟩) hne1 _, own_set HQ.out.1.own (own_ne HQ.out.1.own HQ.out.2.2 (by decide)) _, HQ.out.1.ln, HQ.out.1.fit⟩, HQ.out.2.1.far (p := ⟨ab, j, none⟩) hne2 _, h3⟩)
            have HYB := Lib.hid (And.intro y.lo y.hi)
            have HEH := Lib.hid eh
            subst eh
            clear hwn hr ha3 hy
            go_wp2_with fail
            refine ⟨⟨j + 1, fun i => if i = j then y.n else f i, by omega, rfl, fun i => ?_, HS.out.1, HS.out.2.1, HS.out.2.2⟩, ?_⟩
            · dsimp only
              by_cases h : i = j
              · rw [if_pos h]; exact HYB.out
              · rw [if_neg h]; exact HFB.out i
            · simp [intOf]
              omega
          · have hex : j < 3 → ¬ ((0 : Int) < ws.length) := fun h => by
              have : ws = [] := Classical.byContradiction fun h2 => hgo ⟨h, h2⟩
              rw [this]
              simp
            have HP0 := Lib.hid (fun W => pick_any bd.fr (f 0) W (HFB.out 0).1 (HFB.out 0).2 (bdB_parts HG.out.2).2.2.1.1 (bdB_parts HG.out.2).2.2.1.2.1 (by have := (bdB_parts HG.out.2).2.2.1.2.2; omega))
            have HP1 := Lib.hid (fun W => pick_any bd.co (f 1) W (HFB.out 1).1 (HFB.out 1).2 (bdB_parts HG.out.2).2.2.2.1.1 (bdB_parts HG.out.2).2.2.2.1.2.1 (bdB_parts HG.out.2).2.2.2.1.2.2)
            have HP2 := Lib.hid (fun W => pick_any bd.wa (f 2) W (HFB.out 2).1 (HFB.out 2).2 (bdB_parts HG.out.2).2.2.2.2.1 (bdB_parts HG.out.2).2.2.2.2.2.1 (bdB_parts HG.out.2).2.2.2.2.2.2)
            have z2 := HQ.out.2.1.at 2 (v := vi bd.fr.lo) rfl
            have z3 := HQ.out.2.1.at 3 (v := vi bd.fr.hi) rfl
            have z4 := HQ.out.2.1.at 4 (v := vi bd.co.lo) rfl
            have z5 := HQ.out.2.1.at 5 (v := vi bd.co.hi) rfl
            have z6 := HQ.out.2.1.at 6 (v := vi bd.wa.lo) rfl
            have z7 := HQ.out.2.1.at 7 (v := vi bd.wa.hi) rfl
            have v0 := HQ.out.2.2.at 0 (w3_get f 0 (by omega))
            have v1 := HQ.out.2.2.at 1 (w3_get f 1 (by omega))
            have v2 := HQ.out.2.2.at 2 (w3_get f 2 (by omega))
            clear hgo fin
            by_cases hj4 : j < 3
            · have hj5 : (j : Int) < 3 := by omega
              have hex2 := hex hj4
              clear hex
              go_upto_region 11 with fail
              refine wp_words (by kernel_rfl) (region_told 18 (by kernel_rfl) (by kernel_rfl) (fun W => Below wx.heap.size wx W) newer (pickD [vIs (.slice A k c), vIs (.pointer (some ⟨g, 2, none⟩)), vIs (rgV bd.fr), vIs (.pointer (some ⟨ab, 0, none⟩)), vIs (.int .u16 (f 0)), vRng bd.fr, vIs (.pointer (some ⟨g, 4, none⟩)), vIs (rgV bd.co), vIs (.pointer (some ⟨ab, 1, none⟩)), vIs (.int .u16 (f 1)), vRng bd.co, vIs (.pointer (some ⟨g, 6, none⟩)), vIs (rgV bd.wa), vIs (.pointer (some ⟨ab, 2, none⟩)), vIs (.int .u16 (f 2)), vRng bd.wa, vPk bd, vOneP wx.heap.size bd]) (fun h k => newer_trans h k) (pickD_stable _ ⟨vIs_st, vIs_st, vIs_st, vIs_st, vIs_st, vRng_st, vIs_st, vIs_st, vIs_st, vIs_st, vRng_st, vIs_st, vIs_st, vIs_st, vIs_st, vRng_st, vPk_st, vOneP_st, trivial⟩) (Below.refl _ wx).drew (Below.refl _ _) ?_ ?_)
              · refine ⟨?_, ?_, ?_, ?_, ?_, ?_, ?_, ?_, ?_, ?_, ?_, ?_, ?_, ?_, ?_, ?_, ?_, ?_, trivial⟩
                · intro a W hG hR hO hp
                  have h7 := hO.slot 7 (by kernel_rfl)
                  refine wp_yields (v := .slice A k c) ?_ ⟨_, rfl, rfl, Below.refl _ _, hG⟩
                  simp [slotOf] at h7
                  simp [execOp, go_sem, h7]
                · intro a W hG hR hO hp
                  have h9 := hO.slot 9 (by kernel_rfl)
                  refine wp_yields (v := .pointer (some ⟨g, 2, none⟩)) ?_ ⟨_, rfl, rfl, Below.refl _ _, hG⟩
                  simp [slotOf] at h9
                  simp [execOp, go_sem, h9]
                · intro a W hG hR hO hp
                  have h56 : slotOf a 56 = .pointer (some ⟨g, 2, none⟩) := hp.1
                  have c0 := keep_cell z2 hG
                  have c1 := keep_cell z3 hG
                  refine wp_yields (v := rgV bd.fr) ?_ ⟨_, rfl, rfl, Below.refl _ _, hG⟩
                  simp [slotOf] at h56
                  simp [execOp, go_sem, h56, c0, c1]
                · intro a W hG hR hO hp
                  have h10 := hO.slot 10 (by kernel_rfl)
                  refine wp_yields (v := .pointer (some ⟨ab, 0, none⟩)) ?_ ⟨_, rfl, rfl, Below.refl _ _, hG⟩
                  simp [slotOf] at h10
                  simp [execOp, go_sem, h10]
                · intro a W hG hR hO hp
                  have h58 : slotOf a 58 = .pointer (some ⟨ab, 0, none⟩) := hp.1
                  have c0 := keep_cell v0 hG
                  refine wp_yields (v := .int .u16 (f 0)) ?_ ⟨_, rfl, rfl, Below.refl _ _, hG⟩
                  simp [slotOf] at h58
                  simp [execOp, go_sem, h58, c0]
                · intro a W hG hR hO hp
                  have h57 : slotOf a 57 = rgV bd.fr := hp.1
                  have h59 : slotOf a 59 = .int .u16 (f 0) := hp.2.1
                  refine wp_enters (f := 77) (args := #[rgV bd.fr, .int .u16 (f 0)]) ?_ ((HP0.out W).mono ?_)
                  · simp [slotOf] at h57 h59
                    simp [go_sem, h57, h59]
                  · rintro e w' ⟨n, rfl, h1, h2, hb⟩
                    exact ⟨_, rfl, _, rfl, ⟨n, rfl, h1, h2⟩, hb, below_next hG hb⟩
                · intro a W hG hR hO hp
                  have h9 := hO.slot 9 (by kernel_rfl)
                  refine wp_yields (v := .pointer (some ⟨g, 4, none⟩)) ?_ ⟨_, rfl, rfl, Below.refl _ _, hG⟩
                  simp [slotOf] at h9
                  simp [execOp, go_sem, h9]
                · intro a W hG hR hO hp
                  have h61 : slotOf a 61 = .pointer (some ⟨g, 4, none⟩) := hp.1
                  have c0 := keep_cell z4 hG
                  have c1 := keep_cell z5 hG
                  refine wp_yields (v := rgV bd.co) ?_ ⟨_, rfl, rfl, Below.refl _ _, hG⟩
                  simp [slotOf] at h61
                  simp [execOp, go_sem, h61, c0, c1]
                · intro a W hG hR hO hp
                  have h10 := hO.slot 10 (by kernel_rfl)
                  refine wp_yields (v := .pointer (some ⟨ab, 1, none⟩)) ?_ ⟨_, rfl, rfl, Below.refl _ _, hG⟩
                  simp [slotOf] at h10
                  simp [execOp, go_sem, h10]
                · intro a W hG hR hO hp
                  have h63 : slotOf a 63 = .pointer (some ⟨ab, 1, none⟩) := hp.1
                  have c0 := keep_cell v1 hG
                  refine wp_yields (v := .int .u16 (f 1)) ?_ ⟨_, rfl, rfl, Below.refl _ _, hG⟩
                  simp [slotOf] at h63
                  simp [execOp, go_sem, h63, c0]
                · intro a W hG hR hO hp
                  have h62 : slotOf a 62 = rgV bd.co := hp.1
                  have h64 : slotOf a 64 = .int .u16 (f 1) := hp.2.1
                  refine wp_enters (f := 77) (args := #[rgV bd.co, .int .u16 (f 1)]) ?_ ((HP1.out W).mono ?_)
                  · simp [slotOf] at h62 h64
                    simp [go_sem, h62, h64]
                  · rintro e w' ⟨n, rfl, h1, h2, hb⟩
                    exact ⟨_, rfl, _, rfl, ⟨n, rfl, h1, h2⟩, hb, below_next hG hb⟩
                · intro a W hG hR hO hp
                  have h9 := hO.slot 9 (by kernel_rfl)
                  refine wp_yields (v := .pointer (some ⟨g, 6, none⟩)) ?_ ⟨_, rfl, rfl, Below.refl _ _, hG⟩
                  simp [slotOf] at h9
                  simp [execOp, go_sem, h9]
                · intro a W hG hR hO hp
                  have h66 : slotOf a 66 = .pointer (some ⟨g, 6, none⟩) := hp.1
                  have c0 := keep_cell z6 hG
                  have c1 := keep_cell z7 hG
                  refine wp_yields (v := rgV bd.wa) ?_ ⟨_, rfl, rfl, Below.refl _ _, hG⟩
                  simp [slotOf] at h66
                  simp [execOp, go_sem, h66, c0, c1]
                · intro a W hG hR hO hp
                  have h10 := hO.slot 10 (by kernel_rfl)
                  refine wp_yields (v := .pointer (some ⟨ab, 2, none⟩)) ?_ ⟨_, rfl, rfl, Below.refl _ _, hG⟩
                  simp [slotOf] at h10
                  simp [execOp, go_sem, h10]
                · intro a W hG hR hO hp
                  have h68 : slotOf a 68 = .pointer (some ⟨ab, 2, none⟩) := hp.1
                  have c0 := keep_cell v2 hG
                  refine wp_yields (v := .int .u16 (f 2)) ?_ ⟨_, rfl, rfl, Below.refl _ _, hG⟩
                  simp [slotOf] at h68
                  simp [execOp, go_sem, h68, c0]
                · intro a W hG hR hO hp
                  have h67 : slotOf a 67 = rgV bd.wa := hp.1
                  have h69 : slotOf a 69 = .int .u16 (f 2) := hp.2.1
                  refine wp_enters (f := 77) (args := #[rgV bd.wa, .int .u16 (f 2)]) ?_ ((HP2.out W).mono ?_)
                  · simp [slotOf] at h67 h69
                    simp [go_sem, h67, h69]
                  · rintro e w' ⟨n, rfl, h1, h2, hb⟩
                    exact ⟨_, rfl, _, rfl, ⟨n, rfl, h1, h2⟩, hb, below_next hG hb⟩
                · intro a W hG hR hO hp
                  have h60 := hp.1
                  have h65 := hp.2.1
                  have h70 := hp.2.2.1
                  obtain ⟨n0, h60, g1, g2⟩ := h60
                  obtain ⟨n1, h65, g3, g4⟩ := h65
                  obtain ⟨n2, h70, g5, g6⟩ := h70
                  refine wp_yields (v := rlV ⟨n0, n1, n2⟩) ?_ ⟨_, rfl, ⟨⟨n0, n1, n2⟩, rfl, by simp [fitB, inB]; omega⟩, Below.refl _ _, hG⟩
                  simp [slotOf] at h60 h65 h70
                  simp [execOp, go_sem, h60, h65, h70]
                · intro a W hG hR hO hp
                  have h71 := hp.1
                  obtain ⟨y, h71, hy⟩ := h71
                  refine wp_makes (v := .slice (some ⟨W.heap.size, 0, none⟩) 1 1) (W' := W.alloc (.cells (rlC y) 125)) ?_ ⟨_, rfl, ⟨_, y, rfl, hG.size, Whole.made _ _ _, hy⟩, newer_allocH _ _, below_next hG (newer_allocH _ _)⟩
                  simp [slotOf] at h71
                  simp [execOp, go_sem, h71]
              · intro wy hG hR
                rintro _ rfl _ rfl _ rfl _ rfl _ rfl _ - _ rfl _ rfl _ rfl _ rfl _ - _ rfl _ rfl _ rfl _ rfl _ - _ - _ ⟨nb, y, rfl, hnb, hW, hyf⟩
                change wpList _ _ _ _ _ _
                simp only [Act.put, List.setIfInBounds_toArray, List.set_cons_zero, List.set_cons_succ, List.drop_succ_cons, List.drop_zero]
                have HO := Lib.hid (own_below HQ.out.1.own hG)
                have HN := Lib.hid (HQ.out.1.next hG)
                have HWN := Lib.hid (World.news_of_block hW)
                have HYF := Lib.hid hyf
                clear hG hR hW z2 z3 z4 z5 z6 z7 v0 v1 v2 hyf HP0 HP1 HP2
                go_wp2_with (at_builtin; go_loud ((refine wpList_append_lies _ rfl (.tmp 55) (.tmp 72) 80 rfl w.heap.size 125 i0 (.agg #[vi 0, vi 0, vi 0]) 3 24 Try.underlying80 HI.out.1 HI.out.2.1 HI.out.2.2.1 HI.out.2.2.2 rfl (by omega) _ k _ rfl HO.out ⟨nb, 0, none⟩ 1 1 (rlL y) rfl rfl HWN.out (by simp [Value.oneCell']) (by omega) (by unfold maxLen; omega) (by omega) HN.out.nw.size wy.heap.size rfl ?_); intro gg cp2 w2 hown2 hgrow2 hat2 hlt2; have HE := Lib.hid (And.intro hown2 (And.intro hgrow2 (own_ge HO.out))); clear hown2 hgrow2 hat2 hlt2))
                refine ⟨⟨k + 1, tl ++ [y], some ⟨gg, 0, none⟩, cp2, rfl, by omega, rfl, ?_, ?_, ?_, ?_, ?_, ?_⟩, ?_⟩
                · exact below_grown (grown_trans' (grown_of_newer HN.out.nw _) HE.out.2.1) HE.out.2.2 (Nat.le_refl _)
                · exact HN.out.xb.grown HE.out.2.1 (fun e => own_ne HO.out HN.out.xb (by decide) e.symm)
                · exact HN.out.ub.grown HE.out.2.1 (fun e => own_ne HO.out HN.out.ub (by decide) e.symm)
                · rw [List.flatMap_append, List.flatMap_singleton]
                  exact HE.out.1
                · rw [List.length_append, HN.out.ln]; rfl
                · intro i hi
                  by_cases h : i = k
                  · rw [h, HGE.out]
                    have e9 : (tl ++ [y]).getD k ⟨0, 0, 0⟩ = y := by simp [List.getD, ← HN.out.ln]
                    rw [e9]
                    exact HYF.out
                  · have h1 := HN.out.fit i (by omega)
                    have e9 : (tl ++ [y]).getD i ⟨0, 0, 0⟩ = tl.getD i ⟨0, 0, 0⟩ := by simp [List.getD, List.getElem?_append_left (show i < tl.length by rw [HN.out.ln]; omega)]
                    rw [e9]
                    exact h1
                · simp [intOf]
                  omega
            · have hj5 : ¬ ((j : Int) < 3) := by omega
              clear hex
              go_upto_region 11 with fail
              refine wp_words (by kernel_rfl) (region_told 18 (by kernel_rfl) (by kernel_rfl) (fun W => Below wx.heap.size wx W) newer (pickD [vIs (.slice A k c), vIs (.pointer (some ⟨g, 2, none⟩)), vIs (rgV bd.fr), vIs (.pointer (some ⟨ab, 0, none⟩)), vIs (.int .u16 (f 0)), vRng bd.fr, vIs (.pointer (some ⟨g, 4, none⟩)), vIs (rgV bd.co), vIs (.pointer (some ⟨ab, 1, none⟩)), vIs (.int .u16 (f 1)), vRng bd.co, vIs (.pointer (some ⟨g, 6, none⟩)), vIs (rgV bd.wa), vIs (.pointer (some ⟨ab, 2, none⟩)), vIs (.int .u16 (f 2)), vRng bd.wa, vPk bd, vOneP wx.heap.size bd]) (fun h k => newer_trans h k) (pickD_stable _ ⟨vIs_st, vIs_st, vIs_st, vIs_st, vIs_st, vRng_st, vIs_st, vIs_st, vIs_st, vIs_st, vRng_st, vIs_st, vIs_st, vIs_st, vIs_st, vRng_st, vPk_st, vOneP_st, trivial⟩) (Below.refl _ wx).drew (Below.refl _ _) ?_ ?_)
              · refine ⟨?_, ?_, ?_, ?_, ?_, ?_, ?_, ?_, ?_, ?_, ?_, ?_, ?_, ?_, ?_, ?_, ?_, ?_, trivial⟩
                · intro a W hG hR hO hp
                  have h7 := hO.slot 7 (by kernel_rfl)
                  refine wp_yields (v := .slice A k c) ?_ ⟨_, rfl, rfl, Below.refl _ _, hG⟩
                  simp [slotOf] at h7
                  simp [execOp, go_sem, h7]
                · intro a W hG hR hO hp
                  have h9 := hO.slot 9 (by kernel_rfl)
                  refine wp_yields (v := .pointer (some ⟨g, 2, none⟩)) ?_ ⟨_, rfl, rfl, Below.refl _ _, hG⟩
                  simp [slotOf] at h9
                  simp [execOp, go_sem, h9]
                · intro a W hG hR hO hp
                  have h56 : slotOf a 56 = .pointer (some ⟨g, 2, none⟩) := hp.1
                  have c0 := keep_cell z2 hG
                  have c1 := keep_cell z3 hG
                  refine wp_yields (v := rgV bd.fr) ?_ ⟨_, rfl, rfl, Below.refl _ _, hG⟩
                  simp [slotOf] at h56
                  simp [execOp, go_sem, h56, c0, c1]
                · intro a W hG hR hO hp
                  have h10 := hO.slot 10 (by kernel_rfl)
                  refine wp_yields (v := .pointer (some ⟨ab, 0, none⟩)) ?_ ⟨_, rfl, rfl, Below.refl _ _, hG⟩
                  simp [slotOf] at h10
                  simp [execOp, go_sem, h10]
                · intro a W hG hR hO hp
                  have h58 : slotOf a 58 = .pointer (some ⟨ab, 0, none⟩) := hp.1
                  have c0 := keep_cell v0 hG
                  refine wp_yields (v := .int .u16 (f 0)) ?_ ⟨_, rfl, rfl, Below.refl _ _, hG⟩
                  simp [slotOf] at h58
                  simp [execOp, go_sem, h58, c0]
                · intro a W hG hR hO hp
                  have h57 : slotOf a 57 = rgV bd.fr := hp.1
                  have h59 : slotOf a 59 = .int .u16 (f 0) := hp.2.1
                  refine wp_enters (f := 77) (args := #[rgV bd.fr, .int .u16 (f 0)]) ?_ ((HP0.out W).mono ?_)
                  · simp [slotOf] at h57 h59
                    simp [go_sem, h57, h59]
                  · rintro e w' ⟨n, rfl, h1, h2, hb⟩
                    exact ⟨_, rfl, _, rfl, ⟨n, rfl, h1, h2⟩, hb, below_next hG hb⟩
                · intro a W hG hR hO hp
                  have h9 := hO.slot 9 (by kernel_rfl)
                  refine wp_yields (v := .pointer (some ⟨g, 4, none⟩)) ?_ ⟨_, rfl, rfl, Below.refl _ _, hG⟩
                  simp [slotOf] at h9
                  simp [execOp, go_sem, h9]
                · intro a W hG hR hO hp
                  have h61 : slotOf a 61 = .pointer (some ⟨g, 4, none⟩) := hp.1
                  have c0 := keep_cell z4 hG
                  have c1 := keep_cell z5 hG
                  refine wp_yields (v := rgV bd.co) ?_ ⟨_, rfl, rfl, Below.refl _ _, hG⟩
                  simp [slotOf] at h61
                  simp [execOp, go_sem, h61, c0, c1]
                · intro a W hG hR hO hp
                  have h10 := hO.slot 10 (by kernel_rfl)
                  refine wp_yields (v := .pointer (some ⟨ab, 1, none⟩)) ?_ ⟨_, rfl, rfl, Below.refl _ _, hG⟩
                  simp [slotOf] at h10
                  simp [execOp, go_sem, h10]
                · intro a W hG hR hO hp
                  have h63 : slotOf a 63 = .pointer (some ⟨ab, 1, none⟩) := hp.1
                  have c0 := keep_cell v1 hG
                  refine wp_yields (v := .int .u16 (f 1)) ?_ ⟨_, rfl, rfl, Below.refl _ _, hG⟩
                  simp [slotOf] at h63
                  simp [execOp, go_sem, h63, c0]
                · intro a W hG hR hO hp
                  have h62 : slotOf a 62 = rgV bd.co := hp.1
                  have h64 : slotOf a 64 = .int .u16 (f 1) := hp.2.1
                  refine wp_enters (f := 77) (args := #[rgV bd.co, .int .u16 (f 1)]) ?_ ((HP1.out W).mono ?_)
                  · simp [slotOf] at h62 h64
                    simp [go_sem, h62, h64]
                  · rintro e w' ⟨n, rfl, h1, h2, hb⟩
                    exact ⟨_, rfl, _, rfl, ⟨n, rfl, h1, h2⟩, hb, below_next hG hb⟩
                · intro a W hG hR hO hp
                  have h9 := hO.slot 9 (by kernel_rfl)
                  refine wp_yields (v := .pointer (some ⟨g, 6, none⟩)) ?_ ⟨_, rfl, rfl, Below.refl _ _, hG⟩
                  simp [slotOf] at h9
                  simp [execOp, go_sem, h9]
                · intro a W hG hR hO hp
                  have h66 : slotOf a 66 = .pointer (some ⟨g, 6, none⟩) := hp.1
                  have c0 := keep_cell z6 hG
                  have c1 := keep_cell z7 hG
                  refine wp_yields (v := rgV bd.wa) ?_ ⟨_, rfl, rfl, Below.refl _ _, hG⟩
                  simp [slotOf] at h66
                  simp [execOp, go_sem, h66, c0, c1]
                · intro a W hG hR hO hp
                  have h10 := hO.slot 10 (by kernel_rfl)
                  refine wp_yields (v := .pointer (some ⟨ab, 2, none⟩)) ?_ ⟨_, rfl, rfl, Below.refl _ _, hG⟩
                  simp [slotOf] at h10
                  simp [execOp, go_sem, h10]
                · intro a W hG hR hO hp
                  have h68 : slotOf a 68 = .pointer (some ⟨ab, 2, none⟩) := hp.1
                  have c0 := keep_cell v2 hG
                  refine wp_yields (v := .int .u16 (f 2)) ?_ ⟨_, rfl, rfl, Below.refl _ _, hG⟩
                  simp [slotOf] at h68
                  simp [execOp, go_sem, h68, c0]
                · intro a W hG hR hO hp
                  have h67 : slotOf a 67 = rgV bd.wa := hp.1
                  have h69 : slotOf a 69 = .int .u16 (f 2) := hp.2.1
                  refine wp_enters (f := 77) (args := #[rgV bd.wa, .int .u16 (f 2)]) ?_ ((HP2.out W).mono ?_)
                  · simp [slotOf] at h67 h69
                    simp [go_sem, h67, h69]
                  · rintro e w' ⟨n, rfl, h1, h2, hb⟩
                    exact ⟨_, rfl, _, rfl, ⟨n, rfl, h1, h2⟩, hb, below_next hG hb⟩
                · intro a W hG hR hO hp
                  have h60 := hp.1
                  have h65 := hp.2.1
                  have h70 := hp.2.2.1
                  obtain ⟨n0, h60, g1, g2⟩ := h60
                  obtain ⟨n1, h65, g3, g4⟩ := h65
                  obtain ⟨n2, h70, g5, g6⟩ := h70
                  refine wp_yields (v := rlV ⟨n0, n1, n2⟩) ?_ ⟨_, rfl, ⟨⟨n0, n1, n2⟩, rfl, by simp [fitB, inB]; omega⟩, Below.refl _ _, hG⟩
                  simp [slotOf] at h60 h65 h70
                  simp [execOp, go_sem, h60, h65, h70]
                · intro a W hG hR hO hp
                  have h71 := hp.1
                  obtain ⟨y, h71, hy⟩ := h71
                  refine wp_makes (v := .slice (some ⟨W.heap.size, 0, none⟩) 1 1) (W' := W.alloc (.cells (rlC y) 125)) ?_ ⟨_, rfl, ⟨_, y, rfl, hG.size, Whole.made _ _ _, hy⟩, newer_allocH _ _, below_next hG (newer_allocH _ _)⟩
                  simp [slotOf] at h71
                  simp [execOp, go_sem, h71]
              · intro wy hG hR
                rintro _ rfl _ rfl _ rfl _ rfl _ rfl _ - _ rfl _ rfl _ rfl _ rfl _ - _ rfl _ rfl _ rfl _ rfl _ - _ - _ ⟨nb, y, rfl, hnb, hW, hyf⟩
                change wpList _ _ _ _ _ _
                simp only [Act.put, List.setIfInBounds_toArray, List.set_cons_zero, List.set_cons_succ, List.drop_succ_cons, List.drop_zero]
                have HO := Lib.hid (own_below HQ.out.1.own hG)
                have HN := Lib.hid (HQ.out.1.next hG)
                have HWN := Lib.hid (World.news_of_block hW)
                have HYF := Lib.hid hyf
                clear hG hR hW z2 z3 z4 z5 z6 z7 v0 v1 v2 hyf HP0 HP1 HP2
                go_wp2_with (at_builtin; go_loud ((refine wpList_append_lies _ rfl (.tmp 55) (.tmp 72) 80 rfl w.heap.size 125 i0 (.agg #[vi 0, vi 0, vi 0]) 3 24 Try.underlying80 HI.out.1 HI.out.2.1 HI.out.2.2.1 HI.out.2.2.2 rfl (by omega) _ k _ rfl HO.out ⟨nb, 0, none⟩ 1 1 (rlL y) rfl rfl HWN.out (by simp [Value.oneCell']) (by omega) (by unfold maxLen; omega) (by omega) HN.out.nw.size wy.heap.size rfl ?_); intro gg cp2 w2 hown2 hgrow2 hat2 hlt2; have HE := Lib.hid (And.intro hown2 (And.intro hgrow2 (own_ge HO.out))); clear hown2 hgrow2 hat2 hlt2))
                refine ⟨⟨k + 1, tl ++ [y], some ⟨gg, 0, none⟩, cp2, rfl, by omega, rfl, ?_, ?_, ?_, ?_, ?_, ?_⟩, ?_⟩
                · exact below_grown (grown_trans' (grown_of_newer HN.out.nw _) HE.out.2.1) HE.out.2.2 (Nat.le_refl _)
                · exact HN.out.xb.grown HE.out.2.1 (fun e => own_ne HO.out HN.out.xb (by decide) e.symm)
                · exact HN.out.ub.grown HE.out.2.1 (fun e => own_ne HO.out HN.out.ub (by decide) e.symm)
                · rw [List.flatMap_append, List.flatMap_singleton]
                  exact HE.out.1
                · rw [List.length_append, HN.out.ln]; rfl
                · intro i hi
                  by_cases h : i = k
                  · rw [h, HGE.out]
                    have e9 : (tl ++ [y]).getD k ⟨0, 0, 0⟩ = y := by simp [List.getD, ← HN.out.ln]
                    rw [e9]
                    exact HYF.out
                  · have h1 := HN.out.fit i (by omega)
                    have e9 : (tl ++ [y]).getD i ⟨0, 0, 0⟩ = tl.getD i ⟨0, 0, 0⟩ := by simp [List.getD, List.getElem?_append_left (show i < tl.length by rw [HN.out.ln]; omega)]
                    rw [e9]
                    exact h1
                · simp [intOf]
                  omega
    · obtain rfl : k = l.length := by omega
      have HE := Lib.hid (show Row rlL 3 wr wr.heap.size A tl by
        have e := HJ.out.own
        rw [← HJ.out.ln] at e
        exact row_of_own (enc := rlL) (size := 3) (by omega) (fun _ => rfl) e)
      have HFT : Hid (fitsA bs tl = true) := Lib.hid (fitsA_iff.2 ⟨by rw [HJ.out.ln, HBS.out.2], fun i hi => HJ.out.fit i (by have := HBS.out.2; omega)⟩)
      have HLN := Lib.hid HJ.out.ln
      clear hx hu2
      go_wp2_with fail
      go_ret
      exact ⟨tl, A, c, by rw [HLN.out]; rfl, HE.out, HFT.out, hn⟩

end Go.Proofs.Ytkenokpobbichaa
