/- Do the numbers of a truth lie in the ranges, by the reference. -/
import Derived.Test.YtkenokpobbichaaBH
namespace Go.Proofs.Ytkenokpobbichaa
open Go.RowKit Go.Shelf Go.Deep

set_option maxRecDepth 100000 in
set_option maxHeartbeats 2000000 in
theorem fits_any (s : Sm) (u : Su) (k0 : Nat) (l : List Nat) (tl : List Rl) (A : Option Addr) (ct : Nat) (w : World) (hok : SmOk s w) (hs : SdOk s.sd) (hu : SuOk u w) (hf : u.frm = k0) (hl : u.beds = l.map fun x : Nat => (x : Int)) (hsf : SurfB s.sd.n s.cs.length s.sd.K k0 l)
    (htr : Row rlL 3 w w.heap.size A tl) :
    Calls Try.prog 47 #[smV s, suV u, .slice A tl.length ct] w fun e w' => e = .returned (.bool (fitsA (bedsL s.sd.cols k0 l) tl)) ∧ newer w w' := by
  have hcl : s.cs.length ≤ 12 := by have h1 := hs.cols; rw [sd_len] at h1; omega
  have hul : u.beds.length = l.length := by rw [hl]; simp
  have hll : 1 ≤ l.length := by have h1 := hsf.1; have h2 := (hd_ok hs false).K0; omega
  obtain ⟨y0, hy0⟩ := get_of_lt (l := s.cs) (k := 0) (by have := hsf.2.1; omega)
  obtain ⟨b1, o1, ea, _, _⟩ := rowC hok.cs hy0
  obtain ⟨b2, o2, eu, _⟩ := row1k hu (k := 0) (by omega)
  have hnw : newer w ((w.alloc (.cells (smC s) 24)).alloc (.cells (suC u) 27)) := newer_trans (newer_allocH _ _) (newer_allocH _ _)
  have hxb := (Whole.made w 24 (smC s)).alloc (.cells (suC u) 27)
  have hub := Whole.made (w.alloc (.cells (smC s) 24)) 27 (suC u)
  rw [World.size_alloc] at hub
  have H0 := Lib.hid (And.intro hnw (And.intro hxb hub))
  have HEA := Lib.hid (And.intro ea eu)
  have HOK := Lib.hid hok
  have HU := Lib.hid hu
  have HSD := Lib.hid hs
  have HSF := Lib.hid (And.intro hsf (And.intro hf (And.intro hl hul)))
  have hkl : k0 + l.length ≤ s.cs.length := hsf.2.1
  have HTR := Lib.hid htr
  obtain ⟨bs, hbs⟩ : ∃ bs, bs = bedsL s.sd.cols k0 l := ⟨_, rfl⟩
  have hbl : bs.length = l.length := by rw [hbs]; exact bedsL_len _ _ _
  have HBS := Lib.hid (And.intro hbs hbl)
  rw [← hbs]
  obtain ⟨R, hR⟩ : ∃ R, R = fitsA bs tl := ⟨_, rfl⟩
  rw [← hR]
  have HRR := Lib.hid hR
  have x0 := hxb.at 0 (v := .slice s.a s.cs.length s.c) rfl
  have u1 := hub.at 1 (v := .slice u.a u.beds.length u.c) rfl
  rw [hul] at u1
  clear hok hs hu hsf hf hl hul hnw hxb hub ea eu hy0 htr hbs hbl hR x0
  by_cases hlen : tl.length = l.length
  case neg =>
    have hb0 : ((tl.length : Int) == (l.length : Int)) = false := by simp; omega
    have hb1 : ((tl.length : Int) != (l.length : Int)) = true := by simp; omega
    have hb2 : (tl.length == l.length) = false := by simpa using hlen
    have hb3 : (tl.length != l.length) = true := by simpa using hlen
    have HE : Hid (R = false) := Lib.hid (by
      rw [HRR.out, Bool.eq_false_iff]
      intro h
      exact hlen ((fitsA_iff.1 h).1.trans HBS.out.2))
    clear hlen
    go_enter Try.func47, Try.ntmps47
    go_wp2_with fail
    go_ret
    exact ⟨by rw [HE.out] <;> rfl, H0.out.1⟩
  case pos =>
  have HLN := Lib.hid hlen
  have HBAD : Hid (¬ (∀ i, i < bs.length → fitB (bs.getD i zeroBd) (tl.getD i ⟨0, 0, 0⟩) = true) → R = false) := Lib.hid (fun h => by
    rw [HRR.out, Bool.eq_false_iff]
    intro h2
    exact h (fitsA_iff.1 h2).2)
  have ht0 : ((tl.length : Int) == (l.length : Int)) = true := by simp; omega
  have ht1 : ((tl.length : Int) != (l.length : Int)) = false := by simp; omega
  have ht2 : (tl.length == l.length) = true := by simpa using hlen
  have ht3 : (tl.length != l.length) = false := by simpa using hlen
  clear hlen
  go_enter Try.func47, Try.ntmps47
  go_wp2_with fail
  clear ht0 ht1 ht2 ht3 u1
  go_loopw [7] (fun s7 wr => ∃ k : Nat, s7 = vi k ∧ k ≤ tl.length ∧ (∀ i, i < k → fitB (bs.getD i zeroBd) (tl.getD i ⟨0, 0, 0⟩) = true) ∧ newer w wr ∧ Whole wr w.heap.size 24 (smC s) ∧ Whole wr (w.heap.size + 1) 27 (suC u)) (fun s7 _ => tl.length - (intOf s7).toNat)
  case atStart => exact ⟨0, rfl, Nat.zero_le _, fun i h => absurd h (by omega), H0.out.1, H0.out.2.1, H0.out.2.2⟩
  case round =>
    obtain ⟨k, rfl, hk, hfit, hn, hx, hu2⟩ := hrel
    clear H0
    have HFI := Lib.hid hfit
    have HJ := Lib.hid (And.intro hn (And.intro hx hu2))
    clear hfit
    by_cases hltt : k < tl.length
    · have hkt : (k : Int) < tl.length := by omega
      have hlt : k < l.length := by have := HLN.out; omega
      obtain ⟨b, hb⟩ := get_of_lt hlt
      obtain ⟨y, hy⟩ := get_of_lt (l := tl) (k := k) hltt
      obtain ⟨bt, ot, eT, _, r0, r1, r2⟩ := row3 (HTR.out.below hn) hy
      have hgy : tl.getD k ⟨0, 0, 0⟩ = y := by simp [List.getD, hy]
      have HGY := Lib.hid hgy
      clear hy hgy
      have hbn := way_lt l k b HSF.out.1.2.2 hb
      obtain ⟨kk, hkk0⟩ : ∃ kk, kk = k0 + k := ⟨_, rfl⟩
      obtain ⟨x, hx1, hx2, hx3, hx4⟩ := bdAt_is HSD.out (k := kk) (j := b) (by omega) hbn
      obtain ⟨bd, hbd⟩ : ∃ bd, bd = bdAt s.sd.cols kk b := ⟨_, rfl⟩
      rw [← hbd] at hx2 hx4
      have HG := Lib.hid (And.intro (show (bedsL s.sd.cols k0 l)[k]? = some bd by rw [hbd, hkk0]; exact bedsL_get _ l k0 k b hb) hx4)
      obtain ⟨b3, o3, e3, _, cx⟩ := rowC (HOK.out.next hn).cs hx1
      rw [HEA.out.1] at e3
      obtain ⟨rfl, rfl⟩ : b1 = b3 ∧ o1 = o3 := by simpa using e3
      obtain ⟨b4, o4, e4, _, d0, d1, d2, d3, d4, d5, d6, d7⟩ := row8 ((HOK.out.next hn).bd x (List.mem_of_getElem? hx1)) hx2
      rw [e4] at cx
      obtain ⟨b5, o5, e5, p0⟩ := row1k (HU.out.next hn) (k := k) (by rw [HSF.out.2.2.2]; exact hlt)
      rw [HEA.out.2] at e5
      obtain ⟨rfl, rfl⟩ : b2 = b5 ∧ o2 = o5 := by simpa using e5
      have ep : iAt u.beds k = (b : Int) := by rw [HSF.out.2.2.1]; simp [iAt, hb]
      rw [ep] at p0
      have x0 := hx.at 0 (v := .slice s.a s.cs.length s.c) rfl
      rw [HEA.out.1] at x0
      have u0 := hu2.at 0 (v := vi u.frm) rfl
      rw [HSF.out.2.1] at u0
      have u1 := hu2.at 1 (v := .slice u.a u.beds.length u.c) rfl
      rw [HEA.out.2, HSF.out.2.2.2] at u1
      have hkc : (kk : Int) < s.cs.length := by omega
      have hbx : (b : Int) < x.beds.length := by omega
      have hki : (k : Int) < l.length := by omega
      have hk12 : k ≤ 12 := by omega
      have c22 : IntKind.i64.wrap ((k0 : Int) + (k : Int)) = (kk : Int) := by rw [show (k0 : Int) + k = kk by omega]; exact IntWalk.i64_in _ (by omega)
      clear hkk0 hx1 hx2 hx3 hx4 hbd e3 e4 e5 ep hbn hb
      have hge : bs.getD k zeroBd = bd := by simp [List.getD, HBS.out.1, HG.out.1]
      have hlt2 : k < bs.length := by have := HBS.out.2; omega
      have HFK : Hid (fitB (bs.getD k zeroBd) (tl.getD k ⟨0, 0, 0⟩) = (inB y.fr bd.fr.lo bd.fr.hi && inB y.co bd.co.lo bd.co.hi && inB y.wa bd.wa.lo bd.wa.hi)) := Lib.hid (by rw [hge, HGY.out]; rfl)
      have HET := Lib.hid eT
      subst eT
      clear hn hx hu2 hge
      go_upto_region 6 with fail
      refine wp_words (by kernel_rfl) (region_late 22 21 (by kernel_rfl) (by kernel_rfl) (by decide) (by kernel_rfl) (fun W => Below wr.heap.size wr W) (pickB [vIs (.pointer (some ⟨w.heap.size, 0, none⟩)), vIs (.slice (some ⟨b1, o1, none⟩) s.cs.length s.c), vIs (.pointer (some ⟨(w.heap.size + 1), 0, none⟩)), vIs (.int .i64 k0), vIs (.int .i64 k), vIs (.int .i64 kk), vIs (.pointer (some ⟨b1, o1 + kk, none⟩)), vIs (.slice (some ⟨b4, o4, none⟩) x.beds.length x.cp), vIs (.pointer (some ⟨(w.heap.size + 1), 1, none⟩)), vIs (.slice (some ⟨b2, o2, none⟩) l.length u.c), vIs (.int .i64 k), vIs (.pointer (some ⟨b2, o2 + k, none⟩)), vIs (.int .i64 b), vIs (.pointer (some ⟨b4, o4 + b * 8, none⟩)), vIs (bdV bd), vIs (.slice (some ⟨bt, ot, none⟩) tl.length ct), vIs (.int .i64 k), vIs (.pointer (some ⟨bt, ot + k * 3, none⟩)), vIs (rlV y), vNew wr.heap.size 69 zeroX, vNew wr.heap.size 125 #[vi 0, vi 0, vi 0], (fun _ _ => True)] [(fun _ _ => True), (fun _ _ => True), (fun _ _ => True), (fun _ _ => True), (fun _ _ => True), (fun _ _ => True), (fun _ _ => True), (fun _ _ => True), (fun _ _ => True), (fun _ _ => True), (fun _ _ => True), (fun _ _ => True), (fun _ _ => True), (fun _ _ => True), (fun _ _ => True), vIs (.slice (some ⟨bt, ot, none⟩) tl.length ct), vIs (vi k), vIs (.pointer (some ⟨bt, ot + k * 3, none⟩)), vIs (rlV y), vNew wr.heap.size 69 (bdC bd), vNew wr.heap.size 125 #[vi 0, vi 0, vi 0], (fun _ _ => True)]) (pickB_stable ⟨vIs_st, vIs_st, vIs_st, vIs_st, vIs_st, vIs_st, vIs_st, vIs_st, vIs_st, vIs_st, vIs_st, vIs_st, vIs_st, vIs_st, vIs_st, vIs_st, vIs_st, vIs_st, vIs_st, vNew_st, vNew_st, (fun _ _ _ h _ => h), trivial⟩ ⟨(fun _ _ _ h _ => h), (fun _ _ _ h _ => h), (fun _ _ _ h _ => h), (fun _ _ _ h _ => h), (fun _ _ _ h _ => h), (fun _ _ _ h _ => h), (fun _ _ _ h _ => h), (fun _ _ _ h _ => h), (fun _ _ _ h _ => h), (fun _ _ _ h _ => h), (fun _ _ _ h _ => h), (fun _ _ _ h _ => h), (fun _ _ _ h _ => h), (fun _ _ _ h _ => h), (fun _ _ _ h _ => h), vIs_st, vIs_st, vIs_st, vIs_st, vNew_st, vNew_st, (fun _ _ _ h _ => h), trivial⟩) (Below.refl _ wr).drew ?_ ?_)
      · refine ⟨?_, ?_, ?_, ?_, ?_, ?_, ?_, ?_, ?_, ?_, ?_, ?_, ?_, ?_, ?_, ?_, ?_, ?_, ?_, ?_, ?_, ?_, trivial⟩
        · intro a W hG hO hp
          have h3 := hO.slot 3 (by kernel_rfl)
          refine wp_yields (v := .pointer (some ⟨w.heap.size, 0, none⟩)) ?_ ⟨_, rfl, rfl, Below.refl _ _, hG⟩
          simp [slotOf] at h3
          simp [execOp, go_sem, h3]
        · intro a W hG hO hp
          have h22 : slotOf a 22 = .pointer (some ⟨w.heap.size, 0, none⟩) := hp.1
          have c0 := keep_cell x0 hG
          refine wp_yields (v := .slice (some ⟨b1, o1, none⟩) s.cs.length s.c) ?_ ⟨_, rfl, rfl, Below.refl _ _, hG⟩
          simp [slotOf] at h22
          simp [execOp, go_sem, h22, c0]
        · intro a W hG hO hp
          have h4 := hO.slot 4 (by kernel_rfl)
          refine wp_yields (v := .pointer (some ⟨(w.heap.size + 1), 0, none⟩)) ?_ ⟨_, rfl, rfl, Below.refl _ _, hG⟩
          simp [slotOf] at h4
          simp [execOp, go_sem, h4]
        · intro a W hG hO hp
          have h24 : slotOf a 24 = .pointer (some ⟨(w.heap.size + 1), 0, none⟩) := hp.1
          have c0 := keep_cell u0 hG
          refine wp_yields (v := .int .i64 k0) ?_ ⟨_, rfl, rfl, Below.refl _ _, hG⟩
          simp [slotOf] at h24
          simp [execOp, go_sem, h24, c0]
        · intro a W hG hO hp
          have h7 := hO.slot 7 (by kernel_rfl)
          refine wp_yields (v := .int .i64 k) ?_ ⟨_, rfl, rfl, Below.refl _ _, hG⟩
          simp [slotOf] at h7
          simp [execOp, go_sem, h7]
        · intro a W hG hO hp
          have h25 : slotOf a 25 = .int .i64 k0 := hp.1
          have h26 : slotOf a 26 = .int .i64 k := hp.2.1
          refine wp_yields (v := .int .i64 kk) ?_ ⟨_, rfl, rfl, Below.refl _ _, hG⟩
          simp [slotOf] at h25 h26
          simp [execOp, go_sem, h25, h26, c22]
        · intro a W hG hO hp
          have h23 : slotOf a 23 = .slice (some ⟨b1, o1, none⟩) s.cs.length s.c := hp.1
          have h27 : slotOf a 27 = .int .i64 kk := hp.2.1
          refine wp_yields (v := .pointer (some ⟨b1, o1 + kk, none⟩)) ?_ ⟨_, rfl, rfl, Below.refl _ _, hG⟩
          simp [slotOf] at h23 h27
          simp [execOp, go_sem, h23, h27, hkc]
        · intro a W hG hO hp
          have h28 : slotOf a 28 = .pointer (some ⟨b1, o1 + kk, none⟩) := hp.1
          have c0 := keep_cell cx hG
          refine wp_yields (v := .slice (some ⟨b4, o4, none⟩) x.beds.length x.cp) ?_ ⟨_, rfl, rfl, Below.refl _ _, hG⟩
          simp [slotOf] at h28
          simp [execOp, go_sem, h28, c0]
        · intro a W hG hO hp
          have h4 := hO.slot 4 (by kernel_rfl)
          refine wp_yields (v := .pointer (some ⟨(w.heap.size + 1), 1, none⟩)) ?_ ⟨_, rfl, rfl, Below.refl _ _, hG⟩
          simp [slotOf] at h4
          simp [execOp, go_sem, h4]
        · intro a W hG hO hp
          have h30 : slotOf a 30 = .pointer (some ⟨(w.heap.size + 1), 1, none⟩) := hp.1
          have c0 := keep_cell u1 hG
          refine wp_yields (v := .slice (some ⟨b2, o2, none⟩) l.length u.c) ?_ ⟨_, rfl, rfl, Below.refl _ _, hG⟩
          simp [slotOf] at h30
          simp [execOp, go_sem, h30, c0]
        · intro a W hG hO hp
          have h7 := hO.slot 7 (by kernel_rfl)
          refine wp_yields (v := .int .i64 k) ?_ ⟨_, rfl, rfl, Below.refl _ _, hG⟩
          simp [slotOf] at h7
          simp [execOp, go_sem, h7]
        · intro a W hG hO hp
          have h31 : slotOf a 31 = .slice (some ⟨b2, o2, none⟩) l.length u.c := hp.1
          have h32 : slotOf a 32 = .int .i64 k := hp.2.1
          refine wp_yields (v := .pointer (some ⟨b2, o2 + k, none⟩)) ?_ ⟨_, rfl, rfl, Below.refl _ _, hG⟩
          simp [slotOf] at h31 h32
          simp [execOp, go_sem, h31, h32, hki]
        · intro a W hG hO hp
          have h33 : slotOf a 33 = .pointer (some ⟨b2, o2 + k, none⟩) := hp.1
          have c0 := keep_cell p0 hG
          refine wp_yields (v := .int .i64 b) ?_ ⟨_, rfl, rfl, Below.refl _ _, hG⟩
          simp [slotOf] at h33
          simp [execOp, go_sem, h33, c0]
        · intro a W hG hO hp
          have h29 : slotOf a 29 = .slice (some ⟨b4, o4, none⟩) x.beds.length x.cp := hp.1
          have h34 : slotOf a 34 = .int .i64 b := hp.2.1
          refine wp_yields (v := .pointer (some ⟨b4, o4 + b * 8, none⟩)) ?_ ⟨_, rfl, rfl, Below.refl _ _, hG⟩
          simp [slotOf] at h29 h34
          simp [execOp, go_sem, h29, h34, hbx]
        · intro a W hG hO hp
          have h35 : slotOf a 35 = .pointer (some ⟨b4, o4 + b * 8, none⟩) := hp.1
          have c0 := keep_cell d0 hG
          have c1 := keep_cell d1 hG
          have c2 := keep_cell d2 hG
          have c3 := keep_cell d3 hG
          have c4 := keep_cell d4 hG
          have c5 := keep_cell d5 hG
          have c6 := keep_cell d6 hG
          have c7 := keep_cell d7 hG
          refine wp_yields (v := bdV bd) ?_ ⟨_, rfl, rfl, Below.refl _ _, hG⟩
          simp [slotOf] at h35
          simp [execOp, go_sem, h35, c0, c1, c2, c3, c4, c5, c6, c7]
        · intro b a W hG hO hp
          have h2 := hO.slot 2 (by kernel_rfl)
          refine wp_yields (v := .slice (some ⟨bt, ot, none⟩) tl.length ct) ?_ ⟨_, rfl, (by cases b <;> rfl), Below.refl _ _, hG⟩
          simp [slotOf] at h2
          simp [execOp, go_sem, h2]
        · intro b a W hG hO hp
          have h7 := hO.slot 7 (by kernel_rfl)
          refine wp_yields (v := vi k) ?_ ⟨_, rfl, (by cases b <;> rfl), Below.refl _ _, hG⟩
          simp [slotOf] at h7
          simp [execOp, go_sem, h7]
        · intro b a W hG hO hp
          have h37 : slotOf a 37 = .slice (some ⟨bt, ot, none⟩) tl.length ct := by cases b <;> exact hp.1
          have h38 : slotOf a 38 = vi k := by cases b <;> exact hp.2.1
          refine wp_yields (v := .pointer (some ⟨bt, ot + k * 3, none⟩)) ?_ ⟨_, rfl, (by cases b <;> rfl), Below.refl _ _, hG⟩
          simp [slotOf] at h37 h38
          simp [execOp, go_sem, h37, h38, hkt]
        · intro b a W hG hO hp
          have h39 : slotOf a 39 = .pointer (some ⟨bt, ot + k * 3, none⟩) := by cases b <;> exact hp.1
          have c0 := keep_cell r0 hG
          have c1 := keep_cell r1 hG
          have c2 := keep_cell r2 hG
          refine wp_yields (v := rlV y) ?_ ⟨_, rfl, (by cases b <;> rfl), Below.refl _ _, hG⟩
          simp [slotOf] at h39
          simp [execOp, go_sem, h39, c0, c1, c2]
        · intro a W hG hO hp
          refine wp_makes (v := .pointer (some ⟨W.heap.size, 0, none⟩)) (W' := W.alloc (.cells zeroX 69)) ?_ ⟨_, rfl, ⟨_, rfl, hG.size, Whole.made _ _ _⟩, newer_allocH _ _, below_next hG (newer_allocH _ _)⟩
          skip
          simp [execOp, go_sem, zeroX]
        · intro a W hG hO hp
          refine wp_makes (v := .pointer (some ⟨W.heap.size, 0, none⟩)) (W' := W.alloc (.cells #[vi 0, vi 0, vi 0] 125)) ?_ ⟨_, rfl, ⟨_, rfl, hG.size, Whole.made _ _ _⟩, newer_allocH _ _, below_next hG (newer_allocH _ _)⟩
          skip
          simp [execOp, go_sem]
        · intro a W hG hO hp
          have h8 := hp.1
          have h36 : slotOf a 36 = bdV bd := hp.2.1
          obtain ⟨g, h8, hg, hW⟩ := h8
          have hbox := put8 hW bd
          have hgr := put8_grown W g bd
          have e0 := hW.at 0 (v := vi 0) rfl
          have e1 := hW.at 1 (v := vi 0) rfl
          have e2 := hW.at 2 (v := vi 0) rfl
          have e3 := hW.at 3 (v := vi 0) rfl
          have e4 := hW.at 4 (v := vi 0) rfl
          have e5 := hW.at 5 (v := vi 0) rfl
          have e6 := hW.at 6 (v := vi 0) rfl
          have e7 := hW.at 7 (v := vi 0) rfl
          have f0 := hW.free 0
          have f1 := hW.free 1
          have f2 := hW.free 2
          have f3 := hW.free 3
          have f4 := hW.free 4
          have f5 := hW.free 5
          have f6 := hW.free 6
          have f7 := hW.free 7
          have hq := h8
          simp [slotOf] at h8 h36
          refine wp_storesE (W' := ((((((((W.setCell ⟨g, 0, none⟩ (vi bd.drive)).setCell ⟨g, 1, none⟩ (vi bd.normal)).setCell ⟨g, 2, none⟩ (vi bd.fr.lo)).setCell ⟨g, 3, none⟩ (vi bd.fr.hi)).setCell ⟨g, 4, none⟩ (vi bd.co.lo)).setCell ⟨g, 5, none⟩ (vi bd.co.hi)).setCell ⟨g, 6, none⟩ (vi bd.wa.lo)).setCell ⟨g, 7, none⟩ (vi bd.wa.hi))) (by simp [execOp, go_sem, h8, h36, e0, e1, e2, e3, e4, e5, e6, e7, f0, f1, f2, f3, f4, f5, f6, f7]) ⟨rfl, Below.trans hG (below_of_grown hgr hg hG.size), ?_⟩
          intro j oj d hj hoj hd hD
          match j, hoj, hD with
          | 0, _, _ => trivial
          | 1, _, _ => trivial
          | 2, _, _ => trivial
          | 3, _, _ => trivial
          | 4, _, _ => trivial
          | 5, _, _ => trivial
          | 6, _, _ => trivial
          | 7, _, _ => trivial
          | 8, _, _ => trivial
          | 9, _, _ => trivial
          | 10, _, _ => trivial
          | 11, _, _ => trivial
          | 12, _, _ => trivial
          | 13, _, _ => trivial
          | 14, _, _ => trivial
          | 15, _, hD =>
            exact hD
          | 16, _, hD =>
            exact hD
          | 17, _, hD =>
            exact hD
          | 18, _, hD =>
            exact hD
          | 19, hoj, _ =>
            obtain rfl := Option.some.inj hoj
            obtain rfl := Option.some.inj hd
            exact ⟨g, hq, hg, hbox⟩
          | 20, _, hD =>
            obtain ⟨g2, h1, h2, h3⟩ := hD
            exact ⟨g2, h1, h2, h3.grown hgr (fun h => (hW.ne h3 (by decide)) (Option.some.inj h).symm)⟩
          | 21, _, _ => trivial
          | (_ + 22), _, _ => omega
      · intro wz hG
        rintro _ - _ - _ - _ - _ - _ - _ - _ - _ - _ - _ - _ - _ - _ - _ - _ - _ - _ - _ rfl _ ⟨g, rfl, hg, hW⟩ _ ⟨g2, rfl, hg2, hV⟩
        change wpList _ _ _ _ _ _
        simp only [Act.put, List.setIfInBounds_toArray, List.set_cons_zero, List.set_cons_succ, List.drop_succ_cons, List.drop_zero]
        have hne : g ≠ g2 := hW.ne hV (by decide)
        have HB5 : Hid (newer wr (((wz.setCell ⟨g2, 0, none⟩ (vi y.fr)).setCell ⟨g2, 1, none⟩ (vi y.co)).setCell ⟨g2, 2, none⟩ (vi y.wa)) ∧ Whole (((wz.setCell ⟨g2, 0, none⟩ (vi y.fr)).setCell ⟨g2, 1, none⟩ (vi y.co)).setCell ⟨g2, 2, none⟩ (vi y.wa)) g 69 (bdC bd) ∧ Whole (((wz.setCell ⟨g2, 0, none⟩ (vi y.fr)).setCell ⟨g2, 1, none⟩ (vi y.co)).setCell ⟨g2, 2, none⟩ (vi y.wa)) g2 125 (rlC y)) := Lib.hid ⟨((hG.setCell (p := ⟨g2, 0, none⟩) hg2 _).setCell (p := ⟨g2, 1, none⟩) hg2 _).setCell (p := ⟨g2, 2, none⟩) hg2 _, ((hW.far (p := ⟨g2, 0, none⟩) hne _).far (p := ⟨g2, 1, none⟩) hne _).far (p := ⟨g2, 2, none⟩) hne _, ((hV.set 0 (vi y.fr)).set 1 (vi y.co)).set 2 (vi y.wa)⟩
        have y0 := hV.at 0 (v := vi 0) rfl
        have q0 := hV.free 0
        have y1 := hV.at 1 (v := vi 0) rfl
        have q1 := hV.free 1
        have y2 := hV.at 2 (v := vi 0) rfl
        have q2 := hV.free 2
        clear hG hW hV x0 u0 u1 cx p0 d0 d1 d2 d3 d4 d5 d6 d7 c22 r0 r1 r2
        go_upto_region 7 with fail
        refine genQ (fun X => newer wr X ∧ Whole X g 69 (bdC bd) ∧ Whole X g2 125 (rlC y)) HB5.out ?_
        clear HB5 y0 y1 y2 q0 q1 q2 wz
        rintro w6 ⟨q1, q2, q3⟩
        have z0 := q2.at 0 (v := vi bd.drive) rfl
        have z1 := q2.at 1 (v := vi bd.normal) rfl
        have z2 := q2.at 2 (v := vi bd.fr.lo) rfl
        have z3 := q2.at 3 (v := vi bd.fr.hi) rfl
        have z4 := q2.at 4 (v := vi bd.co.lo) rfl
        have z5 := q2.at 5 (v := vi bd.co.hi) rfl
        have z6 := q2.at 6 (v := vi bd.wa.lo) rfl
        have z7 := q2.at 7 (v := vi bd.wa.hi) rfl
        have v0 := q3.at 0 (v := vi y.fr) rfl
        have v1 := q3.at 1 (v := vi y.co) rfl
        have v2 := q3.at 2 (v := vi y.wa) rfl
        have H6 := Lib.hid (And.intro (newer_trans HJ.out.1 q1) (And.intro (HJ.out.2.1.below q1 HJ.out.2.1.lt) (HJ.out.2.2.below q1 HJ.out.2.2.lt)))
        have HI1 := Lib.hid (fun W => in_any y.fr bd.fr.lo bd.fr.hi W)
        have HI2 := Lib.hid (fun W => in_any y.co bd.co.lo bd.co.hi W)
        have HI3 := Lib.hid (fun W => in_any y.wa bd.wa.lo bd.wa.hi W)
        obtain ⟨a1, ha1⟩ : ∃ q, q = inB y.fr bd.fr.lo bd.fr.hi := ⟨_, rfl⟩
        obtain ⟨a2, ha2⟩ : ∃ q, q = inB y.co bd.co.lo bd.co.hi := ⟨_, rfl⟩
        obtain ⟨a3, ha3⟩ : ∃ q, q = inB y.wa bd.wa.lo bd.wa.hi := ⟨_, rfl⟩
        rw [← ha1, ← ha2, ← ha3] at HFK
        rw [← ha1] at HI1
        rw [← ha2] at HI2
        rw [← ha3] at HI3
        clear q1 q2 q3 HJ ha1 ha2 ha3
        cases a1 with
        | false =>
          go_wp2_with fail
          refine (HI1.out _).mono ?_
          rintro e w9 ⟨rfl, rfl⟩
          go_wp2_with fail
          go_ret
          exact ⟨by rw [HBAD.out (fun h => by have h1 := h k hlt2; rw [HFK.out] at h1; cases h1)] <;> rfl, H6.out.1⟩
        | true =>
        cases a2 with
        | false =>
          go_wp2_with fail
          refine (HI1.out _).mono ?_
          rintro e w9 ⟨rfl, rfl⟩
          go_wp2_with fail
          refine (HI2.out _).mono ?_
          rintro e w9 ⟨rfl, rfl⟩
          go_wp2_with fail
          go_ret
          exact ⟨by rw [HBAD.out (fun h => by have h1 := h k hlt2; rw [HFK.out] at h1; cases h1)] <;> rfl, H6.out.1⟩
        | true =>
        cases a3 with
        | false =>
          go_wp2_with fail
          refine (HI1.out _).mono ?_
          rintro e w9 ⟨rfl, rfl⟩
          go_wp2_with fail
          refine (HI2.out _).mono ?_
          rintro e w9 ⟨rfl, rfl⟩
          go_wp2_with fail
          refine (HI3.out _).mono ?_
          rintro e w9 ⟨rfl, rfl⟩
          go_wp2_with fail
          go_ret
          exact ⟨by rw [HBAD.out (fun h => by have h1 := h k hlt2; rw [HFK.out] at h1; cases h1)] <;> rfl, H6.out.1⟩
        | true =>
          go_wp2_with fail
          refine (HI1.out _).mono ?_
          rintro e w9 ⟨rfl, rfl⟩
          go_wp2_with fail
          refine (HI2.out _).mono ?_
          rintro e w9 ⟨rfl, rfl⟩
          go_wp2_with fail
          refine (HI3.out _).mono ?_
          rintro e w9 ⟨rfl, rfl⟩
          go_wp2_with fail
          refine ⟨⟨k + 1, rfl, by omega, fun i h => ?_, H6.out.1, H6.out.2.1, H6.out.2.2⟩, ?_⟩
          · by_cases hik : i = k
            · rw [hik, HFK.out]; rfl
            · exact HFI.out i (by omega)
          · simp [intOf]
            omega
    · obtain rfl : k = tl.length := by omega
      have HE : Hid (R = true) := Lib.hid (by
        rw [HRR.out, fitsA_iff]
        have h1 := HLN.out
        have h2 := HBS.out.2
        exact ⟨by omega, fun i hi => HFI.out i (by omega)⟩)
      clear hx hu2
      go_wp2_with fail
      go_ret
      exact ⟨by rw [HE.out] <;> rfl, hn⟩

end Go.Proofs.Ytkenokpobbichaa
