/- A project in which some villages more have to agree. -/
import Derived.Test.YtpnpnfjhjjdmgaaBK
namespace Go.Proofs.Ytpnpnfjhjjdmgaa
open Go.ChangeShapes Go.WideShapes Go.ChangeAt Go.RowKit Go.Deep

/-- Some villages more agree. -/
def decL (vs : List Bool) (l : List Int) : List Bool := l.foldl (fun vs v => vs.set v.toNat true) vs
def decQ (q : Pj) (l : List Int) : Pj := { q with villages := decL q.villages l }
theorem decL_len (vs : List Bool) : ∀ l : List Int, (decL vs l).length = vs.length := by
  intro l
  induction l generalizing vs with
  | nil => rfl
  | cons v l ih =>
    show (decL (vs.set v.toNat true) l).length = _
    rw [ih, List.length_set]
theorem decL_snoc (vs : List Bool) (l : List Int) (v : Int) : decL vs (l ++ [v]) = (decL vs l).set v.toNat true := by
  unfold decL
  rw [List.foldl_append]
  rfl
theorem decL_take {vs : List Bool} {l : List Int} {k : Nat} {v : Int} (h : l[k]? = some v) : decL vs (l.take (k + 1)) = (decL vs (l.take k)).set v.toNat true := by
  rw [List.take_add_one, h]
  exact decL_snoc vs (l.take k) v
theorem flat_bool (vs : List Bool) (k : Nat) : (vs.flatMap boL).set k (.bool true) = (vs.set k true).flatMap boL := by
  by_cases h : k < vs.length
  · have := flat_put (enc := boL) (s := 1) (fun _ => rfl) (x := vs[k]) (x' := true) (u := .bool true) (j := 0) (by omega) vs k (List.getElem?_eq_getElem h) rfl
    rw [Nat.mul_one, Nat.add_zero] at this
    exact this
  · rw [List.set_eq_of_length_le (by rw [flat_len (enc := boL) (s := 1) (fun _ => rfl)]; omega), List.set_eq_of_length_le (by omega)]
set_option maxRecDepth 100000 in
set_option maxHeartbeats 2000000 in
theorem cloneB_any (vs : List Bool) (A : Option Addr) (cp : Nat) (w : World) (hl : vs.length ≤ 1000) (hr : Row boL 1 w w.heap.size A vs) :
    Calls Try.prog 86 #[.slice A vs.length cp] w fun e w' => (∃ B c, e = .returned (.slice B vs.length c) ∧ w'.ownsRow w.heap.size 4 1 (.slice B vs.length c) vs.length (vs.flatMap boL)) ∧ newer w w' := by
  have hnil : ∀ (W : World) (A : Option Addr) (n c : Nat), (binOp .eql 24 (.slice A n c) (.slice none 0 0)).run Try.prog W = .ok (.bool A.isNone) W := fun W A n c => by
    simp only [binOp]
    simp [run_equal_slice_nil W 24 4 A n c Try.underlying24]
  cases A with
  | none =>
    have hv : vs = [] := by
      rcases vs with _ | ⟨v, vs⟩
      · rfl
      · obtain ⟨b, o, e, _⟩ := hr (by simp)
        cases e
    subst hv
    clear hr
    go_enter Try.func86, Try.ntmps86
    go_wp2_with fail
    go_ret
    exact ⟨⟨none, 0, rfl, rfl, .inl ⟨rfl, rfl⟩⟩, Below.refl _ _⟩
  | some a =>
    have HR := Lib.hid (row_alloc hr (.cells #[] 4))
    obtain ⟨i0, hi0, hz0, hz1, hz2⟩ := info_parts Try.info4
    have HI := Lib.hid (And.intro hi0 (And.intro hz0 (And.intro hz1 hz2)))
    clear hr hi0 hz0 hz1 hz2
    go_enter Try.func86, Try.ntmps86
    go_wp2_with (at_builtin; go_loud ((refine wpList_plain rfl fun K hK => wp_append_owncopy (enc := boL) (size := 1) w.heap.size (.tmp 5) (.tmp 6) 24 4 i0 (.bool false) 1 Try.underlying24 HI.out.1 HI.out.2.1 HI.out.2.2.1 HI.out.2.2.2 rfl (by omega) (by omega) (fun _ => rfl) rfl w.heap.size rfl (Nat.le_refl _) (Whole.made _ _ _) vs (some a) cp rfl hl HR.out (by simp) fun B c w' hB hb hc => hK _ _ ?_); have HB := Lib.hid (And.intro hB ((((Below.refl w.heap.size w).alloc (Nat.le_refl _) (.cells #[] 4))).trans (hb.mono (by simp)))); clear hB hb hc))
    go_ret
    exact ⟨⟨_, _, rfl, HB.out.1⟩, HB.out.2⟩
set_option maxRecDepth 100000 in
set_option maxHeartbeats 4000000 in
theorem decided_any (p : Pm) (l : List Int) (L : Option Addr) (lp : Nat) (w : World) (hok : PmOk p w) (hvn : p.vs.length ≤ 1000) (hl : l.length ≤ 1000) (hlv : ∀ v ∈ l, 0 ≤ v ∧ v < p.vs.length) (hr : Row intL 1 w w.heap.size L l) :
    Calls Try.prog 67 #[pmV p, .slice L l.length lp] w fun e w' => (∃ p2 : Pm, e = .returned (pmV p2) ∧ p2.pj = decQ p.pj l ∧ PmOk p2 w' ∧ (p.ps.length ≤ p.pc → p2.ps.length ≤ p2.pc)) ∧ newer w w' := by
  have hnw := newer_trans (newer_allocH w (.cells (pmC p) 35)) (newer_allocH (w.alloc (.cells (pmC p) 35)) (.cells #[vi 0, vi 0, .slice none 0 0, .slice none 0 0, .slice none 0 0, .slice none 0 0] 35))
  have m0 := (Whole.made w 35 (pmC p)).alloc (.cells #[vi 0, vi 0, .slice none 0 0, .slice none 0 0, .slice none 0 0, .slice none 0 0] 35)
  have m1 := Whole.made (w.alloc (.cells (pmC p) 35)) 35 #[vi 0, vi 0, .slice none 0 0, .slice none 0 0, .slice none 0 0, .slice none 0 0]
  simp only [World.size_alloc] at m1
  have HOK := Lib.hid hok
  have HVN := Lib.hid hvn
  have HLV := Lib.hid hlv
  have HR := Lib.hid hr
  have HLN := Lib.hid hl
  have H1 := Lib.hid (And.intro (hnw) (And.intro (m0) (m1)))
  clear hnw m0 m1 hok hvn hlv hr hl
  obtain ⟨i4, hi0, hz0, hz1, hz2⟩ := info_parts Try.info4
  have HI4 := Lib.hid (And.intro hi0 (And.intro hz0 (And.intro hz1 hz2)))
  clear hi0 hz0 hz1 hz2
  go_enter Try.func67, Try.ntmps67
  go_upto_region 1 with fail
  refine genQ (fun X => newer w X ∧ Whole X w.heap.size 35 (pmC p) ∧ Whole X (w.heap.size + 1) 35 #[vi 0, vi 0, .slice none 0 0, .slice none 0 0, .slice none 0 0, .slice none 0 0]) ⟨H1.out.1, H1.out.2.1, H1.out.2.2⟩ ?_
  rintro w2 ⟨g0_, g1_, g2_⟩
  have H3 := Lib.hid (And.intro (g0_) (And.intro (g1_) (g2_)))
  clear g0_ g1_ g2_ H1
  have x0 := H3.out.2.1.at 0 (v := vi p.years) rfl
  have x1 := H3.out.2.1.at 1 (v := vi p.slopes) rfl
  have x2 := H3.out.2.1.at 2 (v := .slice p.wa p.ws.length p.wc) rfl
  have x3 := H3.out.2.1.at 3 (v := .slice p.na p.ns.length p.nc) rfl
  have x4 := H3.out.2.1.at 4 (v := .slice p.va p.vs.length p.vc) rfl
  have x5 := H3.out.2.1.at 5 (v := .slice p.pa p.ps.length p.pc) rfl
  go_wp2_with fail
  refine (cloneB_any p.vs p.va p.vc _ HVN.out (HOK.out.next H3.out.1).vs).mono ?_
  rintro e w4 ⟨⟨V, vc, rfl, ho1⟩, hb⟩
  have H5 := Lib.hid (And.intro ((newer_trans H3.out.1 hb)) (And.intro ((H3.out.2.1.below hb H3.out.2.1.lt)) (And.intro ((H3.out.2.2.below hb H3.out.2.2.lt)) ((own_more ho1 H3.out.1.size)))))
  clear hb ho1 H3 x0 x1 x2 x3 x4 x5
  have hz4 := H5.out.2.1.at 4 (v := .slice p.va p.vs.length p.vc) rfl
  have hf4 := H5.out.2.1.free 4
  go_upto_region 2 with fail
  refine genQ (fun X => newer w X ∧ Whole X w.heap.size 35 #[vi p.years, vi p.slopes, .slice p.wa p.ws.length p.wc, .slice p.na p.ns.length p.nc, .slice V p.vs.length vc, .slice p.pa p.ps.length p.pc] ∧ Whole X (w.heap.size + 1) 35 #[vi 0, vi 0, .slice none 0 0, .slice none 0 0, .slice none 0 0, .slice none 0 0] ∧ X.ownsRow w.heap.size 4 1 (.slice V p.vs.length vc) p.vs.length (p.vs.flatMap boL)) ⟨H5.out.1.setCell (p := ⟨w.heap.size, 4, none⟩) (Nat.le_refl _) (.slice V p.vs.length vc), H5.out.2.1.set 4 (.slice V p.vs.length vc), H5.out.2.2.1.far (p := ⟨w.heap.size, 4, none⟩) (Nat.ne_of_gt (Nat.lt_succ_self _)) (.slice V p.vs.length vc), own_set H5.out.2.2.2 (own_ne H5.out.2.2.2 H5.out.2.1 (by decide)) (.slice V p.vs.length vc)⟩ ?_
  rintro w6 ⟨g0_, g1_, g2_, g3_⟩
  have H7 := Lib.hid (And.intro (g0_) (And.intro (g1_) (And.intro (g2_) (g3_))))
  clear g0_ g1_ g2_ g3_ H5 hz4 hf4
  go_wp2_with fail
  go_loopw [13] (fun s0 wr => ∃ k : Nat, k ≤ l.length ∧ s0 = .int .i64 k ∧ newer w wr ∧ Whole wr w.heap.size 35 #[vi p.years, vi p.slopes, .slice p.wa p.ws.length p.wc, .slice p.na p.ns.length p.nc, .slice V p.vs.length vc, .slice p.pa p.ps.length p.pc] ∧ Whole wr (w.heap.size + 1) 35 #[vi 0, vi 0, .slice none 0 0, .slice none 0 0, .slice none 0 0, .slice none 0 0] ∧ wr.ownsRow w.heap.size 4 1 (.slice V p.vs.length vc) p.vs.length ((decL p.vs (l.take k)).flatMap boL)) (fun s0 _ => l.length - (intOf s0).toNat)
  case atStart => exact ⟨0, Nat.zero_le _, rfl, H7.out.1, H7.out.2.1, H7.out.2.2.1, H7.out.2.2.2⟩
  case round =>
    obtain ⟨k, hk, rfl, h_nw, h_b0, h_rb, hown⟩ := hrel
    obtain ⟨wo, hwo⟩ : ∃ wo : World, wo = wr := ⟨_, rfl⟩
    rw [← hwo] at h_nw h_b0 h_rb hown ⊢
    clear hwo wr
    have H8 := Lib.hid (And.intro (h_nw) (And.intro (h_b0) (And.intro (h_rb) (hown))))
    clear h_nw h_b0 h_rb hown
    have hln := HLN.out
    have z4 := H8.out.2.1.at 4 (v := .slice V p.vs.length vc) rfl
    by_cases hlt : k < l.length
    · have hkn : (k : Int) < l.length := by omega
      obtain ⟨v, hv⟩ := get_of_lt hlt
      have HV := Lib.hid hv
      have hvb := HLV.out v (List.mem_of_getElem? hv)
      obtain ⟨vn, rfl⟩ : ∃ vn : Nat, v = vn := ⟨v.toNat, by omega⟩
      obtain ⟨g, rfl, hg0⟩ := own_some H8.out.2.2.2 (by omega)
      have HG := Lib.hid hg0
      have hvn : (vn : Int) < p.vs.length := hvb.2
      obtain ⟨b2, o2, e2, _, cl⟩ := row1 ((HR.out.below H8.out.1).more H8.out.1.size) hv
      subst e2
      obtain ⟨old, hold⟩ : ∃ old, (decL p.vs (l.take k))[vn]? = some old := get_of_lt (by rw [decL_len]; omega)
      obtain ⟨b3, o3, e3, _, cv⟩ := rowB (row_of_own (enc := boL) (size := 1) (by omega) (fun _ => rfl) H8.out.2.2.2) hold
      simp only [Option.some.injEq, Addr.mk.injEq, and_true] at e3
      obtain ⟨rfl, rfl⟩ := e3
      rw [Nat.zero_add] at cv
      have hfr := H8.out.2.2.2.frozenAt vn
      clear hv hold hvb hg0
      go_wp2_with fail
      have HOW := Lib.hid ((H8.out.2.2.2.stored vn (.bool true)).1)
      rw [flat_bool, show (decL p.vs (l.take k)).set vn true = decL p.vs (l.take (k + 1)) from (decL_take HV.out).symm] at HOW
      refine ⟨⟨k + 1, by omega, by go_num, H8.out.1.setCell (p := ⟨g, vn, none⟩) HG.out (.bool true), H8.out.2.1.far (p := ⟨g, vn, none⟩) (fun h => own_ne H8.out.2.2.2 H8.out.2.1 (by decide) (by rw [h]; rfl)) (.bool true), H8.out.2.2.1.far (p := ⟨g, vn, none⟩) (fun h => own_ne H8.out.2.2.2 H8.out.2.2.1 (by decide) (by rw [h]; rfl)) (.bool true), HOW.out⟩, by (simp only [intOf]; omega)⟩
    · obtain rfl : k = l.length := by omega
      have hkn : ¬ ((l.length : Int) < l.length) := by omega
      clear hlt
      have z0 := H8.out.2.1.at 0 (v := vi p.years) rfl
      have z1 := H8.out.2.1.at 1 (v := vi p.slopes) rfl
      have z2 := H8.out.2.1.at 2 (v := .slice p.wa p.ws.length p.wc) rfl
      have z3 := H8.out.2.1.at 3 (v := .slice p.na p.ns.length p.nc) rfl
      have z5 := H8.out.2.1.at 5 (v := .slice p.pa p.ps.length p.pc) rfl
      have r0 := H8.out.2.2.1.at 0 (v := vi 0) rfl
      have r1 := H8.out.2.2.1.at 1 (v := vi 0) rfl
      have r2 := H8.out.2.2.1.at 2 (v := .slice none 0 0) rfl
      have r3 := H8.out.2.2.1.at 3 (v := .slice none 0 0) rfl
      have r4 := H8.out.2.2.1.at 4 (v := .slice none 0 0) rfl
      have r5 := H8.out.2.2.1.at 5 (v := .slice none 0 0) rfl
      have f0 := H8.out.2.2.1.free 0
      have f1 := H8.out.2.2.1.free 1
      have f2 := H8.out.2.2.1.free 2
      have f3 := H8.out.2.2.1.free 3
      have f4 := H8.out.2.2.1.free 4
      have f5 := H8.out.2.2.1.free 5
      go_wp2_with fail
      have HZ := Lib.hid (And.intro (put6_newer H8.out.1 (Nat.le_succ _) (vi p.years) (vi p.slopes) (.slice p.wa p.ws.length p.wc) (.slice p.na p.ns.length p.nc) (.slice V p.vs.length vc) (.slice p.pa p.ps.length p.pc)) (And.intro (put6_whole H8.out.2.2.1 (vi p.years) (vi p.slopes) (.slice p.wa p.ws.length p.wc) (.slice p.na p.ns.length p.nc) (.slice V p.vs.length vc) (.slice p.pa p.ps.length p.pc)) (put6_own H8.out.2.2.1 H8.out.2.2.2 (by decide) (vi p.years) (vi p.slopes) (.slice p.wa p.ws.length p.wc) (.slice p.na p.ns.length p.nc) (.slice V p.vs.length vc) (.slice p.pa p.ps.length p.pc))))
      have hfin : (((((wo.setCell ⟨w.heap.size + 1, 0, none⟩ (vi p.years)).setCell ⟨w.heap.size + 1, 1, none⟩ (vi p.slopes)).setCell ⟨w.heap.size + 1, 2, none⟩ (.slice p.wa p.ws.length p.wc)).setCell ⟨w.heap.size + 1, 3, none⟩ (.slice p.na p.ns.length p.nc)).setCell ⟨w.heap.size + 1, 4, none⟩ (.slice V p.vs.length vc)).setCell ⟨w.heap.size + 1, 5, none⟩ (.slice p.pa p.ps.length p.pc) = put6 wo (w.heap.size + 1) (vi p.years) (vi p.slopes) (.slice p.wa p.ws.length p.wc) (.slice p.na p.ns.length p.nc) (.slice V p.vs.length vc) (.slice p.pa p.ps.length p.pc) := rfl
      rw [hfin]
      clear hfin z0 z1 z2 z3 z4 z5 r0 r1 r2 r3 r4 r5 f0 f1 f2 f3 f4 f5
      obtain ⟨we, hwe⟩ : ∃ we, we = put6 wo (w.heap.size + 1) (vi p.years) (vi p.slopes) (.slice p.wa p.ws.length p.wc) (.slice p.na p.ns.length p.nc) (.slice V p.vs.length vc) (.slice p.pa p.ps.length p.pc) := ⟨_, rfl⟩
      rw [← hwe] at HZ ⊢
      clear hwe
      have k0 := HZ.out.2.1.at 0 (v := vi p.years) rfl
      have k1 := HZ.out.2.1.at 1 (v := vi p.slopes) rfl
      have k2 := HZ.out.2.1.at 2 (v := .slice p.wa p.ws.length p.wc) rfl
      have k3 := HZ.out.2.1.at 3 (v := .slice p.na p.ns.length p.nc) rfl
      have k4 := HZ.out.2.1.at 4 (v := .slice V p.vs.length vc) rfl
      have k5 := HZ.out.2.1.at 5 (v := .slice p.pa p.ps.length p.pc) rfl
      have HEND : Hid (∃ p2 : Pm, pmV p2 = .agg #[vi p.years, vi p.slopes, .slice p.wa p.ws.length p.wc, .slice p.na p.ns.length p.nc, .slice V p.vs.length vc, .slice p.pa p.ps.length p.pc] ∧ p2.pj = decQ p.pj l ∧ PmOk p2 we ∧ (p.ps.length ≤ p.pc → p2.ps.length ≤ p2.pc)) := Lib.hid (by
        have hp := HOK.out.next HZ.out.1
        have hv := HZ.out.2.2
        rw [List.take_length] at hv
        refine ⟨{ p with vs := decL p.vs l, va := V, vc := vc }, by simp [decL_len], rfl, ⟨hp.ws, hp.ad, hp.ns, ?_, hp.ps⟩, fun h => h⟩
        exact row_of_own (enc := boL) (base := w.heap.size) (e := 4) (size := 1) (n := p.vs.length) (cap := vc) (by omega) (fun _ => rfl) hv)
      obtain ⟨p2, hp2, hpj, hpo, hpc⟩ := HEND.out
      clear HEND
      exact bodyPost_ret (v := .agg #[vi p.years, vi p.slopes, .slice p.wa p.ws.length p.wc, .slice p.na p.ns.length p.nc, .slice V p.vs.length vc, .slice p.pa p.ps.length p.pc]) (by simp [results, Try.results67, go_sem, k0, k1, k2, k3, k4, k5]) rfl ⟨⟨p2, by rw [hp2], hpj, hpo, hpc⟩, HZ.out.1⟩
set_option maxRecDepth 100000 in
set_option maxHeartbeats 4000000 in
theorem refDecided (p : Pm) (l : List Int) (L : Option Addr) (lp : Nat) (w : World) (hok : PmOk p w) (hvn : p.vs.length ≤ 1000) (hl : l.length ≤ 1000) (hlv : ∀ v ∈ l, 0 ≤ v ∧ v < p.vs.length) (hr : Row intL 1 w w.heap.size L l) :
    Calls Try.prog 44 #[pmV p, .slice L l.length lp] w fun e w' => (∃ p2 : Pm, e = .returned (pmV p2) ∧ p2.pj = decQ p.pj l ∧ PmOk p2 w' ∧ (p.ps.length ≤ p.pc → p2.ps.length ≤ p2.pc)) ∧ newer w w' := by
  have hnw := newer_trans (newer_allocH w (.cells (pmC p) 27)) (newer_allocH (w.alloc (.cells (pmC p) 27)) (.cells #[vi 0, vi 0, .slice none 0 0, .slice none 0 0, .slice none 0 0, .slice none 0 0] 27))
  have m0 := (Whole.made w 27 (pmC p)).alloc (.cells #[vi 0, vi 0, .slice none 0 0, .slice none 0 0, .slice none 0 0, .slice none 0 0] 27)
  have m1 := Whole.made (w.alloc (.cells (pmC p) 27)) 27 #[vi 0, vi 0, .slice none 0 0, .slice none 0 0, .slice none 0 0, .slice none 0 0]
  simp only [World.size_alloc] at m1
  have HOK := Lib.hid hok
  have HVN := Lib.hid hvn
  have HLV := Lib.hid hlv
  have HR := Lib.hid hr
  have HLN := Lib.hid hl
  have H1 := Lib.hid (And.intro (hnw) (And.intro (m0) (m1)))
  clear hnw m0 m1 hok hvn hlv hr hl
  obtain ⟨i4, hi0, hz0, hz1, hz2⟩ := info_parts Try.info4
  have HI4 := Lib.hid (And.intro hi0 (And.intro hz0 (And.intro hz1 hz2)))
  clear hi0 hz0 hz1 hz2
  go_enter Try.func44, Try.ntmps44
  go_upto_region 1 with fail
  refine genQ (fun X => newer w X ∧ Whole X w.heap.size 27 (pmC p) ∧ Whole X (w.heap.size + 1) 27 #[vi 0, vi 0, .slice none 0 0, .slice none 0 0, .slice none 0 0, .slice none 0 0]) ⟨H1.out.1, H1.out.2.1, H1.out.2.2⟩ ?_
  rintro w2 ⟨g0_, g1_, g2_⟩
  have H3 := Lib.hid (And.intro (g0_) (And.intro (g1_) (g2_)))
  clear g0_ g1_ g2_ H1
  have x0 := H3.out.2.1.at 0 (v := vi p.years) rfl
  have x1 := H3.out.2.1.at 1 (v := vi p.slopes) rfl
  have x2 := H3.out.2.1.at 2 (v := .slice p.wa p.ws.length p.wc) rfl
  have x3 := H3.out.2.1.at 3 (v := .slice p.na p.ns.length p.nc) rfl
  have x4 := H3.out.2.1.at 4 (v := .slice p.va p.vs.length p.vc) rfl
  have x5 := H3.out.2.1.at 5 (v := .slice p.pa p.ps.length p.pc) rfl
  go_upto_region 2 with fail
  refine genQ (fun X => newer w X ∧ Whole X w.heap.size 27 (pmC p) ∧ Whole X (w.heap.size + 1) 27 #[vi 0, vi 0, .slice none 0 0, .slice none 0 0, .slice none 0 0, .slice none 0 0] ∧ Whole X w2.heap.size 27 (pmC p)) ⟨(newer_trans H3.out.1 (newer_allocH w2 (.cells (pmC p) 27))), (H3.out.2.1.below (newer_allocH w2 (.cells (pmC p) 27)) H3.out.2.1.lt), (H3.out.2.2.below (newer_allocH w2 (.cells (pmC p) 27)) H3.out.2.2.lt), Whole.made _ _ _⟩ ?_
  obtain ⟨xb, hxb⟩ : ∃ xb, xb = w2.heap.size := ⟨_, rfl⟩
  have Lxb := Lib.hid (show w.heap.size ≤ xb ∧ w.heap.size < xb ∧ (w.heap.size + 1) < xb ∧ w2.heap.size ≤ xb by rw [hxb]; exact ⟨H3.out.1.size, H3.out.2.1.lt, H3.out.2.2.lt, Nat.le_refl _⟩)
  rw [← hxb]
  clear hxb x0 x1 x2 x3 x4 x5
  rintro w4 ⟨g0_, g1_, g2_, g3_⟩
  have H5 := Lib.hid (And.intro (g0_) (And.intro (g1_) (And.intro (g2_) (g3_))))
  clear g0_ g1_ g2_ g3_ H3
  have x4 := H5.out.2.1.at 4 (v := .slice p.va p.vs.length p.vc) rfl
  have z4 := H5.out.2.2.2.at 4 (v := .slice p.va p.vs.length p.vc) rfl
  have HR4 := Lib.hid ((HOK.out.next (newer_trans H5.out.1 (newer_allocH w4 (.cells #[] 4)))).vs)
  have HSZ4 := Lib.hid (H5.out.1.size)
  have x4a := cell_alloc x4 (.cells #[] 4)
  go_upto_region 3 with (at_builtin; go_loud ((refine wpList_plain rfl fun K hK => wp_append_owncopy (enc := boL) (size := 1) w.heap.size (.tmp 8) (.tmp 10) 24 4 i4 (.bool false) 1 Try.underlying24 HI4.out.1 HI4.out.2.1 HI4.out.2.2.1 HI4.out.2.2.2 rfl (by omega) (by omega) (fun _ => rfl) rfl w4.heap.size rfl HSZ4.out (Whole.made _ _ _) p.vs p.va p.vc rfl HVN.out HR4.out (by have := HSZ4.out; simp; omega) fun V vc wc hB hb hc => hK _ _ ?_); have hbb := newer_trans (newer_allocH w4 (.cells #[] 4)) hb; have H6 := Lib.hid (And.intro ((newer_trans H5.out.1 hbb)) (And.intro ((H5.out.2.1.below hbb H5.out.2.1.lt)) (And.intro ((H5.out.2.2.1.below hbb H5.out.2.2.1.lt)) (And.intro ((H5.out.2.2.2.below hbb H5.out.2.2.2.lt)) (hB))))); clear hbb hB hb hc HR4 HSZ4 H5 x4 z4 x4a; have hz4 := H6.out.2.2.2.1.at 4 (v := .slice p.va p.vs.length p.vc) rfl; have hf4 := H6.out.2.2.2.1.free 4))
  refine genQ (fun X => newer w X ∧ Whole X w.heap.size 27 (pmC p) ∧ Whole X (w.heap.size + 1) 27 #[vi 0, vi 0, .slice none 0 0, .slice none 0 0, .slice none 0 0, .slice none 0 0] ∧ Whole X xb 27 #[vi p.years, vi p.slopes, .slice p.wa p.ws.length p.wc, .slice p.na p.ns.length p.nc, .slice V p.vs.length vc, .slice p.pa p.ps.length p.pc] ∧ X.ownsRow w.heap.size 4 1 (.slice V p.vs.length vc) p.vs.length (p.vs.flatMap boL)) ⟨H6.out.1.setCell (p := ⟨xb, 4, none⟩) Lxb.out.1 (.slice V p.vs.length vc), H6.out.2.1.far (p := ⟨xb, 4, none⟩) (Nat.ne_of_lt Lxb.out.2.1) (.slice V p.vs.length vc), H6.out.2.2.1.far (p := ⟨xb, 4, none⟩) (Nat.ne_of_lt Lxb.out.2.2.1) (.slice V p.vs.length vc), H6.out.2.2.2.1.set 4 (.slice V p.vs.length vc), own_set H6.out.2.2.2.2 (own_ne H6.out.2.2.2.2 H6.out.2.2.2.1 (by decide)) (.slice V p.vs.length vc)⟩ ?_
  rintro w7 ⟨g0_, g1_, g2_, g3_, g4_⟩
  have H8 := Lib.hid (And.intro (g0_) (And.intro (g1_) (And.intro (g2_) (And.intro (g3_) (g4_)))))
  clear g0_ g1_ g2_ g3_ g4_ H6 hz4 hf4
  go_wp2_with fail
  go_loopw [6] (fun s0 wr => ∃ k : Nat, k ≤ l.length ∧ s0 = .int .i64 k ∧ newer w wr ∧ Whole wr w.heap.size 27 (pmC p) ∧ Whole wr (w.heap.size + 1) 27 #[vi 0, vi 0, .slice none 0 0, .slice none 0 0, .slice none 0 0, .slice none 0 0] ∧ Whole wr xb 27 #[vi p.years, vi p.slopes, .slice p.wa p.ws.length p.wc, .slice p.na p.ns.length p.nc, .slice V p.vs.length vc, .slice p.pa p.ps.length p.pc] ∧ wr.ownsRow w.heap.size 4 1 (.slice V p.vs.length vc) p.vs.length ((decL p.vs (l.take k)).flatMap boL)) (fun s0 _ => l.length - (intOf s0).toNat)
  case atStart => exact ⟨0, Nat.zero_le _, rfl, H8.out.1, H8.out.2.1, H8.out.2.2.1, H8.out.2.2.2.1, H8.out.2.2.2.2⟩
  case round =>
    obtain ⟨k, hk, rfl, h_nw, h_b0, h_rb, h_bx, hown⟩ := hrel
    obtain ⟨wo, hwo⟩ : ∃ wo : World, wo = wr := ⟨_, rfl⟩
    rw [← hwo] at h_nw h_b0 h_rb h_bx hown ⊢
    clear hwo wr
    have H9 := Lib.hid (And.intro (h_nw) (And.intro (h_b0) (And.intro (h_rb) (And.intro (h_bx) (hown)))))
    clear h_nw h_b0 h_rb h_bx hown
    have hln := HLN.out
    have z4 := H9.out.2.2.2.1.at 4 (v := .slice V p.vs.length vc) rfl
    by_cases hlt : k < l.length
    · have hkn : (k : Int) < l.length := by omega
      obtain ⟨v, hv⟩ := get_of_lt hlt
      have HV := Lib.hid hv
      have hvb := HLV.out v (List.mem_of_getElem? hv)
      obtain ⟨vn, rfl⟩ : ∃ vn : Nat, v = vn := ⟨v.toNat, by omega⟩
      obtain ⟨g, rfl, hg0⟩ := own_some H9.out.2.2.2.2 (by omega)
      have HG := Lib.hid hg0
      have hvn : (vn : Int) < p.vs.length := hvb.2
      obtain ⟨b2, o2, e2, _, cl⟩ := row1 ((HR.out.below H9.out.1).more H9.out.1.size) hv
      subst e2
      obtain ⟨old, hold⟩ : ∃ old, (decL p.vs (l.take k))[vn]? = some old := get_of_lt (by rw [decL_len]; omega)
      obtain ⟨b3, o3, e3, _, cv⟩ := rowB (row_of_own (enc := boL) (size := 1) (by omega) (fun _ => rfl) H9.out.2.2.2.2) hold
      simp only [Option.some.injEq, Addr.mk.injEq, and_true] at e3
      obtain ⟨rfl, rfl⟩ := e3
      rw [Nat.zero_add] at cv
      have hfr := H9.out.2.2.2.2.frozenAt vn
      clear hv hold hvb hg0
      go_upto_region 6 with fail
      refine wp_words (by kernel_rfl) (region_told 6 (by kernel_rfl) (by kernel_rfl) (fun W => Below wo.heap.size wo W) newer (pickD [vIs (.pointer (some ⟨xb, 4, none⟩)), vIs (.slice (some ⟨g, 0, none⟩) p.vs.length vc), vIs (.slice (some ⟨b2, o2, none⟩) l.length lp), vIs (.int .i64 k), vIs (.pointer (some ⟨b2, o2 + k, none⟩)), vIs (.int .i64 vn)]) (fun h k => newer_trans h k) (pickD_stable _ ⟨vIs_st, vIs_st, vIs_st, vIs_st, vIs_st, vIs_st, trivial⟩) (Below.refl _ wo).drew (Below.refl _ _) ?_ ?_)
      · refine ⟨?_, ?_, ?_, ?_, ?_, ?_, trivial⟩
        · intro a W hG hR hO hp
          have h5 := hO.slot 5 (by kernel_rfl)
          refine wp_yields (v := .pointer (some ⟨xb, 4, none⟩)) ?_ ⟨_, rfl, rfl, Below.refl _ _, hG⟩
          simp [slotOf] at h5
          simp [execOp, go_sem, h5]
        · intro a W hG hR hO hp
          have h19 : slotOf a 19 = .pointer (some ⟨xb, 4, none⟩) := hp.1
          have c0 := keep_cell z4 hG
          refine wp_yields (v := .slice (some ⟨g, 0, none⟩) p.vs.length vc) ?_ ⟨_, rfl, rfl, Below.refl _ _, hG⟩
          simp [slotOf] at h19
          simp [execOp, go_sem, h19, c0]
        · intro a W hG hR hO hp
          have h1 := hO.slot 1 (by kernel_rfl)
          refine wp_yields (v := .slice (some ⟨b2, o2, none⟩) l.length lp) ?_ ⟨_, rfl, rfl, Below.refl _ _, hG⟩
          simp [slotOf] at h1
          simp [execOp, go_sem, h1]
        · intro a W hG hR hO hp
          have h6 := hO.slot 6 (by kernel_rfl)
          refine wp_yields (v := .int .i64 k) ?_ ⟨_, rfl, rfl, Below.refl _ _, hG⟩
          simp [slotOf] at h6
          simp [execOp, go_sem, h6]
        · intro a W hG hR hO hp
          have h21 : slotOf a 21 = .slice (some ⟨b2, o2, none⟩) l.length lp := hp.1
          have h22 : slotOf a 22 = .int .i64 k := hp.2.1
          refine wp_yields (v := .pointer (some ⟨b2, o2 + k, none⟩)) ?_ ⟨_, rfl, rfl, Below.refl _ _, hG⟩
          simp [slotOf] at h21 h22
          simp [execOp, go_sem, h21, h22, hkn]
        · intro a W hG hR hO hp
          have h23 : slotOf a 23 = .pointer (some ⟨b2, o2 + k, none⟩) := hp.1
          have c0 := keep_cell cl hG
          refine wp_yields (v := .int .i64 vn) ?_ ⟨_, rfl, rfl, Below.refl _ _, hG⟩
          simp [slotOf] at h23
          simp [execOp, go_sem, h23, c0]
      · intro wz hG hR
        rintro _ rfl _ rfl _ rfl _ rfl _ rfl _ rfl
        change wpList _ _ _ _ _ _
        simp only [Act.put, List.setIfInBounds_toArray, List.set_cons_zero, List.set_cons_succ, List.drop_succ_cons, List.drop_zero]
        have cv := keep_cell cv hG
        have H10 := Lib.hid (And.intro ((newer_trans H9.out.1 hG)) (And.intro ((H9.out.2.1.below hG H9.out.2.1.lt)) (And.intro ((H9.out.2.2.1.below hG H9.out.2.2.1.lt)) (And.intro ((H9.out.2.2.2.1.below hG H9.out.2.2.2.1.lt)) ((own_below H9.out.2.2.2.2 hG))))))
        clear hG hR z4 cl hfr H9
        have hfr := H10.out.2.2.2.2.frozenAt vn
        go_wp2_with fail
        have HOW := Lib.hid ((H10.out.2.2.2.2.stored vn (.bool true)).1)
        rw [flat_bool, show (decL p.vs (l.take k)).set vn true = decL p.vs (l.take (k + 1)) from (decL_take HV.out).symm] at HOW
        refine ⟨⟨k + 1, by omega, by go_num, H10.out.1.setCell (p := ⟨g, vn, none⟩) HG.out (.bool true), H10.out.2.1.far (p := ⟨g, vn, none⟩) (fun h => own_ne H10.out.2.2.2.2 H10.out.2.1 (by decide) (by rw [h]; rfl)) (.bool true), H10.out.2.2.1.far (p := ⟨g, vn, none⟩) (fun h => own_ne H10.out.2.2.2.2 H10.out.2.2.1 (by decide) (by rw [h]; rfl)) (.bool true), H10.out.2.2.2.1.far (p := ⟨g, vn, none⟩) (fun h => own_ne H10.out.2.2.2.2 H10.out.2.2.2.1 (by decide) (by rw [h]; rfl)) (.bool true), HOW.out⟩, by (simp only [intOf]; omega)⟩
    · obtain rfl : k = l.length := by omega
      have hkn : ¬ ((l.length : Int) < l.length) := by omega
      clear hlt
      have z0 := H9.out.2.2.2.1.at 0 (v := vi p.years) rfl
      have z1 := H9.out.2.2.2.1.at 1 (v := vi p.slopes) rfl
      have z2 := H9.out.2.2.2.1.at 2 (v := .slice p.wa p.ws.length p.wc) rfl
      have z3 := H9.out.2.2.2.1.at 3 (v := .slice p.na p.ns.length p.nc) rfl
      have z5 := H9.out.2.2.2.1.at 5 (v := .slice p.pa p.ps.length p.pc) rfl
      have r0 := H9.out.2.2.1.at 0 (v := vi 0) rfl
      have r1 := H9.out.2.2.1.at 1 (v := vi 0) rfl
      have r2 := H9.out.2.2.1.at 2 (v := .slice none 0 0) rfl
      have r3 := H9.out.2.2.1.at 3 (v := .slice none 0 0) rfl
      have r4 := H9.out.2.2.1.at 4 (v := .slice none 0 0) rfl
      have r5 := H9.out.2.2.1.at 5 (v := .slice none 0 0) rfl
      have f0 := H9.out.2.2.1.free 0
      have f1 := H9.out.2.2.1.free 1
      have f2 := H9.out.2.2.1.free 2
      have f3 := H9.out.2.2.1.free 3
      have f4 := H9.out.2.2.1.free 4
      have f5 := H9.out.2.2.1.free 5
      go_wp2_with fail
      have HZ := Lib.hid (And.intro (put6_newer H9.out.1 (Nat.le_succ _) (vi p.years) (vi p.slopes) (.slice p.wa p.ws.length p.wc) (.slice p.na p.ns.length p.nc) (.slice V p.vs.length vc) (.slice p.pa p.ps.length p.pc)) (And.intro (put6_whole H9.out.2.2.1 (vi p.years) (vi p.slopes) (.slice p.wa p.ws.length p.wc) (.slice p.na p.ns.length p.nc) (.slice V p.vs.length vc) (.slice p.pa p.ps.length p.pc)) (put6_own H9.out.2.2.1 H9.out.2.2.2.2 (by decide) (vi p.years) (vi p.slopes) (.slice p.wa p.ws.length p.wc) (.slice p.na p.ns.length p.nc) (.slice V p.vs.length vc) (.slice p.pa p.ps.length p.pc))))
      have hfin : (((((wo.setCell ⟨w.heap.size + 1, 0, none⟩ (vi p.years)).setCell ⟨w.heap.size + 1, 1, none⟩ (vi p.slopes)).setCell ⟨w.heap.size + 1, 2, none⟩ (.slice p.wa p.ws.length p.wc)).setCell ⟨w.heap.size + 1, 3, none⟩ (.slice p.na p.ns.length p.nc)).setCell ⟨w.heap.size + 1, 4, none⟩ (.slice V p.vs.length vc)).setCell ⟨w.heap.size + 1, 5, none⟩ (.slice p.pa p.ps.length p.pc) = put6 wo (w.heap.size + 1) (vi p.years) (vi p.slopes) (.slice p.wa p.ws.length p.wc) (.slice p.na p.ns.length p.nc) (.slice V p.vs.length vc) (.slice p.pa p.ps.length p.pc) := rfl
      rw [hfin]
      clear hfin z0 z1 z2 z3 z4 z5 r0 r1 r2 r3 r4 r5 f0 f1 f2 f3 f4 f5
      obtain ⟨we, hwe⟩ : ∃ we, we = put6 wo (w.heap.size + 1) (vi p.years) (vi p.slopes) (.slice p.wa p.ws.length p.wc) (.slice p.na p.ns.length p.nc) (.slice V p.vs.length vc) (.slice p.pa p.ps.length p.pc) := ⟨_, rfl⟩
      rw [← hwe] at HZ ⊢
      clear hwe
      have k0 := HZ.out.2.1.at 0 (v := vi p.years) rfl
      have k1 := HZ.out.2.1.at 1 (v := vi p.slopes) rfl
      have k2 := HZ.out.2.1.at 2 (v := .slice p.wa p.ws.length p.wc) rfl
      have k3 := HZ.out.2.1.at 3 (v := .slice p.na p.ns.length p.nc) rfl
      have k4 := HZ.out.2.1.at 4 (v := .slice V p.vs.length vc) rfl
      have k5 := HZ.out.2.1.at 5 (v := .slice p.pa p.ps.length p.pc) rfl
      have HEND : Hid (∃ p2 : Pm, pmV p2 = .agg #[vi p.years, vi p.slopes, .slice p.wa p.ws.length p.wc, .slice p.na p.ns.length p.nc, .slice V p.vs.length vc, .slice p.pa p.ps.length p.pc] ∧ p2.pj = decQ p.pj l ∧ PmOk p2 we ∧ (p.ps.length ≤ p.pc → p2.ps.length ≤ p2.pc)) := Lib.hid (by
        have hp := HOK.out.next HZ.out.1
        have hv := HZ.out.2.2
        rw [List.take_length] at hv
        refine ⟨{ p with vs := decL p.vs l, va := V, vc := vc }, by simp [decL_len], rfl, ⟨hp.ws, hp.ad, hp.ns, ?_, hp.ps⟩, fun h => h⟩
        exact row_of_own (enc := boL) (base := w.heap.size) (e := 4) (size := 1) (n := p.vs.length) (cap := vc) (by omega) (fun _ => rfl) hv)
      obtain ⟨p2, hp2, hpj, hpo, hpc⟩ := HEND.out
      clear HEND
      exact bodyPost_ret (v := .agg #[vi p.years, vi p.slopes, .slice p.wa p.ws.length p.wc, .slice p.na p.ns.length p.nc, .slice V p.vs.length vc, .slice p.pa p.ps.length p.pc]) (by simp [results, Try.results44, go_sem, k0, k1, k2, k3, k4, k5]) rfl ⟨⟨p2, by rw [hp2], hpj, hpo, hpc⟩, HZ.out.1⟩

end Go.Proofs.Ytpnpnfjhjjdmgaa
