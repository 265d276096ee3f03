/- A project in which a work may not be built, by the reference. -/
import Derived.Test.YtpnpnfjhjjdmgaaAX
import Derived.Test.YtpnpnfjhjjdmgaaAV
namespace Go.Proofs.Ytpnpnfjhjjdmgaa
open Go.ChangeShapes Go.WideShapes Go.ChangeAt Go.RowKit Go.Deep

theorem Try.info60 : (Try.prog.info? 60).map (fun i => (i.zero, i.size, i.bytes)) = some (some (.agg #[vi 0, vi 0, vi 0]), 3, 24) := by kernel_rfl
/-- Six cells of one block stored. -/
def put6 (W : World) (ob : Nat) (u0 u1 u2 u3 u4 u5 : Value) : World := (((((W.setCell ⟨ob, 0, none⟩ u0).setCell ⟨ob, 1, none⟩ u1).setCell ⟨ob, 2, none⟩ u2).setCell ⟨ob, 3, none⟩ u3).setCell ⟨ob, 4, none⟩ u4).setCell ⟨ob, 5, none⟩ u5
theorem put6_own {W : World} {ob : Nat} {t : TypeId} {cs : Array Value} {base : Nat} {e : TypeId} {s n : Nat} {v : Value} {xs : List Value} (hw : Whole W ob t cs) (ho : W.ownsRow base e s v n xs) (hne : e ≠ t) (u0 u1 u2 u3 u4 u5 : Value) : (put6 W ob u0 u1 u2 u3 u4 u5).ownsRow base e s v n xs := by
  have h0 := own_set (i := 0) ho (own_ne ho hw hne) u0
  have w0 := hw.set 0 u0
  have h1 := own_set (i := 1) h0 (own_ne h0 w0 hne) u1
  have w1 := w0.set 1 u1
  have h2 := own_set (i := 2) h1 (own_ne h1 w1 hne) u2
  have w2 := w1.set 2 u2
  have h3 := own_set (i := 3) h2 (own_ne h2 w2 hne) u3
  have w3 := w2.set 3 u3
  have h4 := own_set (i := 4) h3 (own_ne h3 w3 hne) u4
  have w4 := w3.set 4 u4
  exact own_set (i := 5) h4 (own_ne h4 w4 hne) u5
theorem put6_whole {W : World} {ob : Nat} {t : TypeId} {a0 a1 a2 a3 a4 a5 : Value} (hw : Whole W ob t #[a0, a1, a2, a3, a4, a5]) (u0 u1 u2 u3 u4 u5 : Value) : Whole (put6 W ob u0 u1 u2 u3 u4 u5) ob t #[u0, u1, u2, u3, u4, u5] := (((((hw.set 0 u0).set 1 u1).set 2 u2).set 3 u3).set 4 u4).set 5 u5
theorem put6_newer {w W : World} {ob : Nat} (hn : newer w W) (hb : w.heap.size ≤ ob) (u0 u1 u2 u3 u4 u5 : Value) : newer w (put6 W ob u0 u1 u2 u3 u4 u5) :=
  (((((hn.setCell (p := ⟨ob, 0, none⟩) hb u0).setCell (p := ⟨ob, 1, none⟩) hb u1).setCell (p := ⟨ob, 2, none⟩) hb u2).setCell (p := ⟨ob, 3, none⟩) hb u3).setCell (p := ⟨ob, 4, none⟩) hb u4).setCell (p := ⟨ob, 5, none⟩) hb u5
set_option maxRecDepth 100000 in
set_option maxHeartbeats 4000000 in
theorem refWithout (p : Pm) (i : Nat) (w : World) (hok : PmOk p w) (hpo : PjOk p) (hi : i < p.ws.length) :
    Calls Try.prog 34 #[pmV p, .int .i64 i] w fun e w' => (∃ p2 : Pm, e = .returned (pmV p2) ∧ p2.pj = withoutQ p.pj i ∧ PmOk p2 w') ∧ newer w w' := by
  have hnw := newer_trans (newer_allocH w (.cells (pmC p) 27)) (newer_allocH (w.alloc (.cells (pmC p) 27)) (.cells #[vi 0, vi 0, .slice none 0 0, .slice none 0 0, .slice none 0 0, .slice none 0 0] 27))
  have m0 := (Whole.made w 27 (pmC p)).alloc (.cells #[vi 0, vi 0, .slice none 0 0, .slice none 0 0, .slice none 0 0, .slice none 0 0] 27)
  have m1 := Whole.made (w.alloc (.cells (pmC p) 27)) 27 #[vi 0, vi 0, .slice none 0 0, .slice none 0 0, .slice none 0 0, .slice none 0 0]
  simp only [World.size_alloc] at m1
  have HOK := Lib.hid hok
  have HPO := Lib.hid hpo
  have hin : (i : Int) < p.ws.length := by omega
  obtain ⟨x, hx⟩ := get_of_lt hi
  have HX := Lib.hid hx
  have HWN : Hid (p.ws.length ≤ 1000) := Lib.hid (by have := hpo.wn; omega)
  have HVN : Hid (p.vs.length ≤ 1000) := Lib.hid (by have := hpo.vn; omega)
  have H1 := Lib.hid (And.intro (hnw) (And.intro (m0) (m1)))
  clear hnw m0 m1 hok hpo hx
  obtain ⟨i6, hi0, hz0, hz1, hz2⟩ := info_parts Try.info63
  have HI6 := Lib.hid (And.intro hi0 (And.intro hz0 (And.intro hz1 hz2)))
  clear hi0 hz0 hz1 hz2
  obtain ⟨i4, hi0, hz0, hz1, hz2⟩ := info_parts Try.info4
  have HI4 := Lib.hid (And.intro hi0 (And.intro hz0 (And.intro hz1 hz2)))
  clear hi0 hz0 hz1 hz2
  go_enter Try.func34, Try.ntmps34
  go_upto_region 1 with fail
  refine genQ (fun X => newer w X ∧ Whole X w.heap.size 27 (pmC p) ∧ Whole X (w.heap.size + 1) 27 #[vi 0, vi 0, .slice none 0 0, .slice none 0 0, .slice none 0 0, .slice none 0 0]) ⟨H1.out.1, H1.out.2.1, H1.out.2.2⟩ ?_
  rintro w2 ⟨g0_, g1_, g2_⟩
  have H3 := Lib.hid (And.intro (g0_) (And.intro (g1_) (g2_)))
  clear g0_ g1_ g2_ H1
  have x0 := H3.out.2.1.at 0 (v := vi p.years) rfl
  have x1 := H3.out.2.1.at 1 (v := vi p.slopes) rfl
  have x2 := H3.out.2.1.at 2 (v := .slice p.wa p.ws.length p.wc) rfl
  have x3 := H3.out.2.1.at 3 (v := .slice p.na p.ns.length p.nc) rfl
  have x4 := H3.out.2.1.at 4 (v := .slice p.va p.vs.length p.vc) rfl
  have x5 := H3.out.2.1.at 5 (v := .slice p.pa p.ps.length p.pc) rfl
  go_upto_region 2 with fail
  refine genQ (fun X => newer w X ∧ Whole X w.heap.size 27 (pmC p) ∧ Whole X (w.heap.size + 1) 27 #[vi 0, vi 0, .slice none 0 0, .slice none 0 0, .slice none 0 0, .slice none 0 0] ∧ Whole X w2.heap.size 27 (pmC p)) ⟨(newer_trans H3.out.1 (newer_allocH w2 (.cells (pmC p) 27))), (H3.out.2.1.below (newer_allocH w2 (.cells (pmC p) 27)) H3.out.2.1.lt), (H3.out.2.2.below (newer_allocH w2 (.cells (pmC p) 27)) H3.out.2.2.lt), Whole.made _ _ _⟩ ?_
  obtain ⟨xb, hxb⟩ : ∃ xb, xb = w2.heap.size := ⟨_, rfl⟩
  have Lxb := Lib.hid (show w.heap.size ≤ xb ∧ w.heap.size < xb ∧ (w.heap.size + 1) < xb by rw [hxb]; exact ⟨H3.out.1.size, H3.out.2.1.lt, H3.out.2.2.lt⟩)
  rw [← hxb]
  clear hxb x0 x1 x2 x3 x4 x5
  rintro w4 ⟨g0_, g1_, g2_, g3_⟩
  have H5 := Lib.hid (And.intro (g0_) (And.intro (g1_) (And.intro (g2_) (g3_))))
  clear g0_ g1_ g2_ g3_ H3
  have x2 := H5.out.2.1.at 2 (v := .slice p.wa p.ws.length p.wc) rfl
  have z2 := H5.out.2.2.2.at 2 (v := .slice p.wa p.ws.length p.wc) rfl
  have HR6 := Lib.hid ((HOK.out.next (newer_trans H5.out.1 (newer_allocH w4 (.cells #[] 63)))).ws)
  have HSZ6 := Lib.hid (H5.out.1.size)
  have x2a := cell_alloc x2 (.cells #[] 63)
  go_upto_region 3 with (at_builtin; go_loud ((refine wpList_plain rfl fun K hK => wp_append_owncopy (enc := wkL) (size := 6) w.heap.size (.tmp 7) (.tmp 9) 22 63 i6 (.agg #[vi 0, vi 0, vi 0, vi 0, vi 0, .slice none 0 0]) 64 Try.underlying22 HI6.out.1 HI6.out.2.1 HI6.out.2.2.1 HI6.out.2.2.2 rfl (by omega) (by omega) (fun _ => rfl) rfl w4.heap.size rfl HSZ6.out (Whole.made _ _ _) p.ws p.wa p.wc rfl HWN.out HR6.out (by have := HSZ6.out; simp; omega) fun A c wc hB hb hc => hK _ _ ?_); have hbb := newer_trans (newer_allocH w4 (.cells #[] 63)) hb; have H6 := Lib.hid (And.intro ((newer_trans H5.out.1 hbb)) (And.intro ((H5.out.2.1.below hbb H5.out.2.1.lt)) (And.intro ((H5.out.2.2.1.below hbb H5.out.2.2.1.lt)) (And.intro ((H5.out.2.2.2.below hbb H5.out.2.2.2.lt)) (hB))))); clear hbb hB hb hc HR6 HSZ6 H5 x2 z2 x2a; have hz2 := H6.out.2.2.2.1.at 2 (v := .slice p.wa p.ws.length p.wc) rfl; have hf2 := H6.out.2.2.2.1.free 2))
  refine genQ (fun X => newer w X ∧ Whole X w.heap.size 27 (pmC p) ∧ Whole X (w.heap.size + 1) 27 #[vi 0, vi 0, .slice none 0 0, .slice none 0 0, .slice none 0 0, .slice none 0 0] ∧ Whole X xb 27 #[vi p.years, vi p.slopes, .slice A p.ws.length c, .slice p.na p.ns.length p.nc, .slice p.va p.vs.length p.vc, .slice p.pa p.ps.length p.pc] ∧ X.ownsRow w.heap.size 63 6 (.slice A p.ws.length c) p.ws.length (p.ws.flatMap wkL)) ⟨H6.out.1.setCell (p := ⟨xb, 2, none⟩) Lxb.out.1 (.slice A p.ws.length c), H6.out.2.1.far (p := ⟨xb, 2, none⟩) (Nat.ne_of_lt Lxb.out.2.1) (.slice A p.ws.length c), H6.out.2.2.1.far (p := ⟨xb, 2, none⟩) (Nat.ne_of_lt Lxb.out.2.2) (.slice A p.ws.length c), H6.out.2.2.2.1.set 2 (.slice A p.ws.length c), own_set H6.out.2.2.2.2 (own_ne H6.out.2.2.2.2 H6.out.2.2.2.1 (by decide)) (.slice A p.ws.length c)⟩ ?_
  rintro w7 ⟨g0_, g1_, g2_, g3_, g4_⟩
  have H8 := Lib.hid (And.intro (g0_) (And.intro (g1_) (And.intro (g2_) (And.intro (g3_) (g4_)))))
  clear g0_ g1_ g2_ g3_ g4_ H6 hz2 hf2
  obtain ⟨g, rfl, hg0⟩ := own_some H8.out.2.2.2.2 (by omega)
  have HG := Lib.hid hg0
  clear hg0
  have z2 := H8.out.2.2.2.1.at 2 (v := .slice (some ⟨g, 0, none⟩) p.ws.length c) rfl
  have x4 := H8.out.2.1.at 4 (v := .slice p.va p.vs.length p.vc) rfl
  obtain ⟨b2, o2, e2, _, d0, d1, d2, d3, d4, d5⟩ := row6 (row_of_own (enc := wkL) (size := 6) (by omega) (fun _ => rfl) H8.out.2.2.2.2) HX.out
  simp only [Option.some.injEq, Addr.mk.injEq, and_true] at e2
  obtain ⟨rfl, rfl⟩ := e2
  simp only [Nat.zero_add] at d4
  clear d0 d1 d2 d3 d5
  have hfr := H8.out.2.2.2.2.frozenAt (i * 6 + 4)
  go_upto_region 4 with fail
  have HOW := Lib.hid ((H8.out.2.2.2.2.stored (i * 6 + 4) (vi p.vs.length)).1)
  refine genQ (fun X => newer w X ∧ Whole X w.heap.size 27 (pmC p) ∧ Whole X (w.heap.size + 1) 27 #[vi 0, vi 0, .slice none 0 0, .slice none 0 0, .slice none 0 0, .slice none 0 0] ∧ Whole X xb 27 #[vi p.years, vi p.slopes, .slice (some ⟨g, 0, none⟩) p.ws.length c, .slice p.na p.ns.length p.nc, .slice p.va p.vs.length p.vc, .slice p.pa p.ps.length p.pc] ∧ X.ownsRow w.heap.size 63 6 (.slice (some ⟨g, 0, none⟩) p.ws.length c) p.ws.length ((p.ws.flatMap wkL).set (i * 6 + 4) (vi p.vs.length))) ⟨H8.out.1.setCell (p := ⟨g, i * 6 + 4, none⟩) HG.out (vi p.vs.length), H8.out.2.1.far (p := ⟨g, i * 6 + 4, none⟩) (fun h => own_ne H8.out.2.2.2.2 H8.out.2.1 (by decide) (by rw [h]; rfl)) (vi p.vs.length), H8.out.2.2.1.far (p := ⟨g, i * 6 + 4, none⟩) (fun h => own_ne H8.out.2.2.2.2 H8.out.2.2.1 (by decide) (by rw [h]; rfl)) (vi p.vs.length), H8.out.2.2.2.1.far (p := ⟨g, i * 6 + 4, none⟩) (fun h => own_ne H8.out.2.2.2.2 H8.out.2.2.2.1 (by decide) (by rw [h]; rfl)) (vi p.vs.length), HOW.out⟩ ?_
  rintro w9 ⟨g0_, g1_, g2_, g3_, g4_⟩
  have H10 := Lib.hid (And.intro (g0_) (And.intro (g1_) (And.intro (g2_) (And.intro (g3_) (g4_)))))
  clear g0_ g1_ g2_ g3_ g4_ H8 z2 x4 HOW d4 hfr
  have x4 := H10.out.2.1.at 4 (v := .slice p.va p.vs.length p.vc) rfl
  have HR4 := Lib.hid ((HOK.out.next (newer_trans H10.out.1 (newer_allocH w9 (.cells #[] 4)))).vs)
  have HSZ4 := Lib.hid (H10.out.1.size)
  have x4a := cell_alloc x4 (.cells #[] 4)
  go_upto_region 5 with (first | (at_builtin; ((refine wpList_plain rfl fun K hK => wp_append_owncopy (enc := boL) (size := 1) w.heap.size (.tmp 20) (.tmp 22) 24 4 i4 (.bool false) 1 Try.underlying24 HI4.out.1 HI4.out.2.1 HI4.out.2.2.1 HI4.out.2.2.2 rfl (by omega) (by omega) (fun _ => rfl) rfl w9.heap.size rfl HSZ4.out (Whole.made _ _ _) p.vs p.va p.vc rfl HVN.out HR4.out (by have := HSZ4.out; simp; omega) fun V vc wc hB hb hc => hK _ _ ?_); have hbb := newer_trans (newer_allocH w9 (.cells #[] 4)) hb; have H11 := Lib.hid (And.intro ((newer_trans H10.out.1 hbb)) (And.intro ((H10.out.2.1.below hbb H10.out.2.1.lt)) (And.intro ((H10.out.2.2.1.below hbb H10.out.2.2.1.lt)) (And.intro ((H10.out.2.2.2.1.below hbb H10.out.2.2.2.1.lt)) (And.intro ((own_below H10.out.2.2.2.2 hbb)) (hB)))))); clear hbb hB hb hc HR4 HSZ4 H10 x4 x4a; have HOO := Lib.hid (own_below H11.out.2.2.2.2.2 (newer_allocH wc (.cells #[.bool false] 4))); have HNW := Lib.hid (World.news_of_block (Whole.made wc 4 #[.bool false])); have hvn := HVN.out; have hbs := H11.out.1.size; have H12 := Lib.hid (And.intro ((newer_trans H11.out.1 (newer_allocH wc (.cells #[.bool false] 4)))) (And.intro ((H11.out.2.1.below (newer_allocH wc (.cells #[.bool false] 4)) H11.out.2.1.lt)) (And.intro ((H11.out.2.2.1.below (newer_allocH wc (.cells #[.bool false] 4)) H11.out.2.2.1.lt)) (And.intro ((H11.out.2.2.2.1.below (newer_allocH wc (.cells #[.bool false] 4)) H11.out.2.2.2.1.lt)) (And.intro ((own_below H11.out.2.2.2.2.1 (newer_allocH wc (.cells #[.bool false] 4)))) ((own_below H11.out.2.2.2.2.2 (newer_allocH wc (.cells #[.bool false] 4))))))))); clear H11)) | (at_builtin; go_loud ((refine wpList_append_lies _ rfl (.tmp 23) (.tmp 24) 24 rfl w.heap.size 4 i4 (.bool false) 1 1 Try.underlying24 HI4.out.1 HI4.out.2.1 HI4.out.2.2.1 HI4.out.2.2.2 rfl (by omega) _ p.vs.length _ rfl HOO.out ⟨wc.heap.size, 0, none⟩ 1 1 [.bool false] rfl rfl HNW.out (by simp [Value.oneCell']) (by omega) (by unfold maxLen; omega) (by omega) (by simp; omega) (wc.heap.size + 1) (by simp) ?_); intro gv cv w4 hown2 hgrow2 hat2 hlt2; have H13 := Lib.hid (And.intro ((H12.out.1.grown hgrow2 H12.out.1.size (own_ge H12.out.2.2.2.2.2))) (And.intro ((H12.out.2.1.grown hgrow2 (own_ne H12.out.2.2.2.2.2 H12.out.2.1 (by decide)).symm)) (And.intro ((H12.out.2.2.1.grown hgrow2 (own_ne H12.out.2.2.2.2.2 H12.out.2.2.1 (by decide)).symm)) (And.intro ((H12.out.2.2.2.1.grown hgrow2 (own_ne H12.out.2.2.2.2.2 H12.out.2.2.2.1 (by decide)).symm)) (And.intro ((H12.out.2.2.2.2.1.kept hgrow2 (own_apart H12.out.2.2.2.2.1 H12.out.2.2.2.2.2 (by decide)))) (hown2)))))); clear hgrow2 hown2 hat2 hlt2 HOO HNW hbs hvn H12; have hz4 := H13.out.2.2.2.1.at 4 (v := .slice p.va p.vs.length p.vc) rfl; have hf4 := H13.out.2.2.2.1.free 4)))
  refine genQ (fun X => newer w X ∧ Whole X w.heap.size 27 (pmC p) ∧ Whole X (w.heap.size + 1) 27 #[vi 0, vi 0, .slice none 0 0, .slice none 0 0, .slice none 0 0, .slice none 0 0] ∧ Whole X xb 27 #[vi p.years, vi p.slopes, .slice (some ⟨g, 0, none⟩) p.ws.length c, .slice p.na p.ns.length p.nc, .slice (some ⟨gv, 0, none⟩) (p.vs.length + 1) cv, .slice p.pa p.ps.length p.pc] ∧ X.ownsRow w.heap.size 63 6 (.slice (some ⟨g, 0, none⟩) p.ws.length c) p.ws.length ((p.ws.flatMap wkL).set (i * 6 + 4) (vi p.vs.length)) ∧ X.ownsRow w.heap.size 4 1 (.slice (some ⟨gv, 0, none⟩) (p.vs.length + 1) cv) (p.vs.length + 1) (p.vs.flatMap boL ++ [.bool false])) ⟨H13.out.1.setCell (p := ⟨xb, 4, none⟩) Lxb.out.1 (.slice (some ⟨gv, 0, none⟩) (p.vs.length + 1) cv), H13.out.2.1.far (p := ⟨xb, 4, none⟩) (Nat.ne_of_lt Lxb.out.2.1) (.slice (some ⟨gv, 0, none⟩) (p.vs.length + 1) cv), H13.out.2.2.1.far (p := ⟨xb, 4, none⟩) (Nat.ne_of_lt Lxb.out.2.2) (.slice (some ⟨gv, 0, none⟩) (p.vs.length + 1) cv), H13.out.2.2.2.1.set 4 (.slice (some ⟨gv, 0, none⟩) (p.vs.length + 1) cv), own_set H13.out.2.2.2.2.1 (own_ne H13.out.2.2.2.2.1 H13.out.2.2.2.1 (by decide)) (.slice (some ⟨gv, 0, none⟩) (p.vs.length + 1) cv), own_set H13.out.2.2.2.2.2 (own_ne H13.out.2.2.2.2.2 H13.out.2.2.2.1 (by decide)) (.slice (some ⟨gv, 0, none⟩) (p.vs.length + 1) cv)⟩ ?_
  rintro w14 ⟨g0_, g1_, g2_, g3_, g4_, g5_⟩
  have H15 := Lib.hid (And.intro (g0_) (And.intro (g1_) (And.intro (g2_) (And.intro (g3_) (And.intro (g4_) (g5_))))))
  clear g0_ g1_ g2_ g3_ g4_ g5_ H13 hz4 hf4
  have z0 := H15.out.2.2.2.1.at 0 (v := vi p.years) rfl
  have z1 := H15.out.2.2.2.1.at 1 (v := vi p.slopes) rfl
  have z2 := H15.out.2.2.2.1.at 2 (v := .slice (some ⟨g, 0, none⟩) p.ws.length c) rfl
  have z3 := H15.out.2.2.2.1.at 3 (v := .slice p.na p.ns.length p.nc) rfl
  have z4 := H15.out.2.2.2.1.at 4 (v := .slice (some ⟨gv, 0, none⟩) (p.vs.length + 1) cv) rfl
  have z5 := H15.out.2.2.2.1.at 5 (v := .slice p.pa p.ps.length p.pc) rfl
  have r0 := H15.out.2.2.1.at 0 (v := vi 0) rfl
  have r1 := H15.out.2.2.1.at 1 (v := vi 0) rfl
  have r2 := H15.out.2.2.1.at 2 (v := .slice none 0 0) rfl
  have r3 := H15.out.2.2.1.at 3 (v := .slice none 0 0) rfl
  have r4 := H15.out.2.2.1.at 4 (v := .slice none 0 0) rfl
  have r5 := H15.out.2.2.1.at 5 (v := .slice none 0 0) rfl
  have f0 := H15.out.2.2.1.free 0
  have f1 := H15.out.2.2.1.free 1
  have f2 := H15.out.2.2.1.free 2
  have f3 := H15.out.2.2.1.free 3
  have f4 := H15.out.2.2.1.free 4
  have f5 := H15.out.2.2.1.free 5
  go_wp2_with fail
  have HZ := Lib.hid (And.intro (put6_newer H15.out.1 (Nat.le_succ _) (vi p.years) (vi p.slopes) (.slice (some ⟨g, 0, none⟩) p.ws.length c) (.slice p.na p.ns.length p.nc) (.slice (some ⟨gv, 0, none⟩) (p.vs.length + 1) cv) (.slice p.pa p.ps.length p.pc)) (And.intro (put6_whole H15.out.2.2.1 (vi p.years) (vi p.slopes) (.slice (some ⟨g, 0, none⟩) p.ws.length c) (.slice p.na p.ns.length p.nc) (.slice (some ⟨gv, 0, none⟩) (p.vs.length + 1) cv) (.slice p.pa p.ps.length p.pc)) (And.intro (put6_own H15.out.2.2.1 H15.out.2.2.2.2.1 (by decide) (vi p.years) (vi p.slopes) (.slice (some ⟨g, 0, none⟩) p.ws.length c) (.slice p.na p.ns.length p.nc) (.slice (some ⟨gv, 0, none⟩) (p.vs.length + 1) cv) (.slice p.pa p.ps.length p.pc)) (put6_own H15.out.2.2.1 H15.out.2.2.2.2.2 (by decide) (vi p.years) (vi p.slopes) (.slice (some ⟨g, 0, none⟩) p.ws.length c) (.slice p.na p.ns.length p.nc) (.slice (some ⟨gv, 0, none⟩) (p.vs.length + 1) cv) (.slice p.pa p.ps.length p.pc)))))
  have hfin : (((((w14.setCell ⟨w.heap.size + 1, 0, none⟩ (vi p.years)).setCell ⟨w.heap.size + 1, 1, none⟩ (vi p.slopes)).setCell ⟨w.heap.size + 1, 2, none⟩ (.slice (some ⟨g, 0, none⟩) p.ws.length c)).setCell ⟨w.heap.size + 1, 3, none⟩ (.slice p.na p.ns.length p.nc)).setCell ⟨w.heap.size + 1, 4, none⟩ (.slice (some ⟨gv, 0, none⟩) (p.vs.length + 1) cv)).setCell ⟨w.heap.size + 1, 5, none⟩ (.slice p.pa p.ps.length p.pc) = put6 w14 (w.heap.size + 1) (vi p.years) (vi p.slopes) (.slice (some ⟨g, 0, none⟩) p.ws.length c) (.slice p.na p.ns.length p.nc) (.slice (some ⟨gv, 0, none⟩) (p.vs.length + 1) cv) (.slice p.pa p.ps.length p.pc) := rfl
  rw [hfin]
  clear hfin z0 z1 z2 z3 z4 z5 r0 r1 r2 r3 r4 r5 f0 f1 f2 f3 f4 f5
  obtain ⟨we, hwe⟩ : ∃ we, we = put6 w14 (w.heap.size + 1) (vi p.years) (vi p.slopes) (.slice (some ⟨g, 0, none⟩) p.ws.length c) (.slice p.na p.ns.length p.nc) (.slice (some ⟨gv, 0, none⟩) (p.vs.length + 1) cv) (.slice p.pa p.ps.length p.pc) := ⟨_, rfl⟩
  rw [← hwe] at HZ ⊢
  clear hwe
  have k0 := HZ.out.2.1.at 0 (v := vi p.years) rfl
  have k1 := HZ.out.2.1.at 1 (v := vi p.slopes) rfl
  have k2 := HZ.out.2.1.at 2 (v := .slice (some ⟨g, 0, none⟩) p.ws.length c) rfl
  have k3 := HZ.out.2.1.at 3 (v := .slice p.na p.ns.length p.nc) rfl
  have k4 := HZ.out.2.1.at 4 (v := .slice (some ⟨gv, 0, none⟩) (p.vs.length + 1) cv) rfl
  have k5 := HZ.out.2.1.at 5 (v := .slice p.pa p.ps.length p.pc) rfl
  have HEND : Hid (∃ p2 : Pm, pmV p2 = .agg #[vi p.years, vi p.slopes, .slice (some ⟨g, 0, none⟩) p.ws.length c, .slice p.na p.ns.length p.nc, .slice (some ⟨gv, 0, none⟩) (p.vs.length + 1) cv, .slice p.pa p.ps.length p.pc] ∧ p2.pj = withoutQ p.pj i ∧ PmOk p2 we) := Lib.hid (by
    have hp := HOK.out.next HZ.out.1
    have ho := HZ.out.2.2.1
    have hv := HZ.out.2.2.2
    rw [flat_put (enc := wkL) (s := 6) (fun _ => rfl) (x' := { x with d := { x.d with village := (p.vs.length : Int) } }) (by omega) p.ws i x HX.out rfl] at ho
    refine ⟨⟨p.years, p.slopes, p.ws.set i { x with d := { x.d with village := (p.vs.length : Int) } }, some ⟨g, 0, none⟩, c, p.ns, p.na, p.nc, p.vs ++ [false], some ⟨gv, 0, none⟩, cv, p.ps, p.pa, p.pc⟩, by simp, ?_, ?_, ?_, hp.ns, ?_, hp.ps⟩
    · simp only [Pm.pj, withoutQ]
      rw [set_modify (f := fun z : Wk => { z with d := { z.d with village := (p.vs.length : Int) } }) HX.out, map_modify (f := fun z : Wk => z.d) (g := fun z : Wk => { z with d := { z.d with village := (p.vs.length : Int) } }) (g' := fun z : Wd => { z with village := (p.vs.length : Int) }) (fun _ => rfl)]
    · exact row_of_own (enc := wkL) (size := 6) (by omega) (fun _ => rfl) (by simpa using ho)
    · intro y hy
      rcases List.mem_or_eq_of_mem_set hy with hy | rfl
      · exact hp.ad y hy
      · exact hp.ad x (List.mem_of_getElem? HX.out)
    · refine row_of_own (enc := boL) (base := w.heap.size) (e := 4) (size := 1) (n := p.vs.length + 1) (cap := cv) (by omega) (fun _ => rfl) ?_
      rw [List.flatMap_append]
      exact hv)
  obtain ⟨p2, hp2, hpj, hpo⟩ := HEND.out
  clear HEND
  exact bodyPost_ret (v := .agg #[vi p.years, vi p.slopes, .slice (some ⟨g, 0, none⟩) p.ws.length c, .slice p.na p.ns.length p.nc, .slice (some ⟨gv, 0, none⟩) (p.vs.length + 1) cv, .slice p.pa p.ps.length p.pc]) (by simp [results, Try.results34, go_sem, k0, k1, k2, k3, k4, k5]) rfl ⟨⟨p2, by rw [hp2], hpj, hpo⟩, HZ.out.1⟩
end Go.Proofs.Ytpnpnfjhjjdmgaa
