/- SlopeStronger returns true: with a stronger bed the least factor is not lower, with a narrower range no span gets wider. -/
import Derived.Test.YtkenokpobbichaaBT
import Derived.Test.YtkenokpobbichaaBG
import Derived.Test.YtkenokpobbichaaY
namespace Go.Proofs.Ytkenokpobbichaa
open Go.ChangeShapes Go.WideShapes Go.ChangeAt Go.RowKit Go.Deep

section
open Go.RowKit Go.Shelf Go.Deep
theorem SmOwn.more {B B' : Nat} {s : Sm} {W : World} (h : SmOwn B s W) (hb : B' ≤ B) : SmOwn B' s W := ⟨own_more h.own hb, fun x hx => by
  obtain ⟨g, h1, h2⟩ := h.col x hx
  exact ⟨g, h1, own_more h2 hb⟩, h.ap⟩
/-- A bed in a row of one's own, cell by cell. -/
structure Whole8 (W : World) (g o : Nat) (b : Bd) : Prop where
  c0 : W.cell? ⟨g, o, none⟩ = some (vi b.drive)
  c2 : W.cell? ⟨g, o + 2, none⟩ = some (vi b.fr.lo)
  c3 : W.cell? ⟨g, o + 3, none⟩ = some (vi b.fr.hi)
  c4 : W.cell? ⟨g, o + 4, none⟩ = some (vi b.co.lo)
  c5 : W.cell? ⟨g, o + 5, none⟩ = some (vi b.co.hi)
  c6 : W.cell? ⟨g, o + 6, none⟩ = some (vi b.wa.lo)
  c7 : W.cell? ⟨g, o + 7, none⟩ = some (vi b.wa.hi)
  f : ∀ i, W.frozen? ⟨g, o + i, none⟩ = false
theorem whole8 {W : World} {B g n c : Nat} {l : List Bd} {k : Nat} {b : Bd} (h : W.ownsRow B 69 8 (.slice (some ⟨g, 0, none⟩) n c) n (l.flatMap bdL)) (hn : n = l.length) (hb : l[k]? = some b) : Whole8 W g (k * 8) b := by
  subst hn
  obtain ⟨cs, hcs⟩ := own_cells h
  obtain ⟨b2, o2, e2, _, d0, d1, d2, d3, d4, d5, d6, d7⟩ := row8 (row_of_own (enc := bdL) (size := 8) (by omega) (fun _ => rfl) h) hb
  obtain ⟨rfl, rfl⟩ : g = b2 ∧ 0 = o2 := by simpa using e2
  simp only [Nat.zero_add] at d0 d2 d3 d4 d5 d6 d7
  exact ⟨d0, d2, d3, d4, d5, d6, d7, fun i => hcs.free _⟩
set_option maxRecDepth 100000 in
set_option maxHeartbeats 4000000 in
theorem slopeStronger_walk (s : Sm) (ws : List Byt) (wa : Option Addr) (wc : Nat) (a2 a3 a4 a5 : Int) (w : World) (h20 : 0 ≤ a2) (h21 : a2 ≤ 255) (h30 : 0 ≤ a3) (h31 : a3 ≤ 255) (h40 : 0 ≤ a4) (h41 : a4 ≤ 255) (h50 : 0 ≤ a5) (h51 : a5 ≤ 65535) (hok : SmOk s w) (hwr : Row byL 1 w w.heap.size wa ws) : Calls Try.prog 8 #[smV s, .slice wa ws.length wc, .int .u8 a2, .int .u8 a3, .int .u8 a4, .int .u16 a5] w fun e w' => e = .returned (.bool true) ∧ newer w w' := by
  have hnw := newer_allocH w (.cells (smC s) 24)
  have hxb := Whole.made w 24 (smC s)
  have H1 := Lib.hid (And.intro (hnw) (hxb))
  clear hnw hxb
  have HOK := Lib.hid (And.intro hok hwr)
  have HRD := Lib.hid (ready_any s _ (hok.next H1.out.1))
  obtain ⟨c2, rfl⟩ : ∃ n : Nat, a2 = n := ⟨a2.toNat, by omega⟩
  obtain ⟨c3, rfl⟩ : ∃ n : Nat, a3 = n := ⟨a3.toNat, by omega⟩
  obtain ⟨c4, rfl⟩ : ∃ n : Nat, a4 = n := ⟨a4.toNat, by omega⟩
  obtain ⟨c5, rfl⟩ : ∃ n : Nat, a5 = n := ⟨a5.toNat, by omega⟩
  clear hok hwr
  have x0 := H1.out.2.at 0 (v := .slice s.a s.cs.length s.c) rfl
  have x1 := H1.out.2.at 1 (v := vi s.least) rfl
  cases hr : readyB s.sd with
  | false =>
    rw [hr] at HRD
    clear hr
    go_enter Try.func8, Try.ntmps8
    go_wp2_with fail
    refine (HRD.out).mono ?_
    rintro e w2 ⟨rfl, hb⟩
    have H3 := Lib.hid (And.intro ((newer_trans H1.out.1 hb)) ((H1.out.2.below hb H1.out.2.lt)))
    clear hb HRD H1 x0 x1
    go_wp2_with fail
    refine (wakes_any _).mono ?_
    rintro e w4 ⟨rfl, hb⟩
    have H5 := Lib.hid (And.intro ((newer_trans H3.out.1 hb)) ((H3.out.2.below hb H3.out.2.lt)))
    clear hb H3
    go_wp2_with fail
    go_ret
    exact ⟨rfl, H5.out.1⟩
  | true =>
    rw [hr] at HRD
    obtain ⟨hs, few, hle⟩ := ready_ok hr
    have HFW := Lib.hid few
    have HSD := Lib.hid hs
    have hcl := hs.cols
    rw [sd_len] at hcl
    clear hr
    have HPA : Hid (∀ W, newer w W → Calls Try.prog 40 #[smV s, .slice wa ws.length wc] W fun e w' => ∃ u : Su, e = .returned (suV u) ∧ SuOk u w' ∧ (∃ k l, u.frm = (k : Nat) ∧ u.beds = l.map (fun x : Nat => (x : Int)) ∧ SurfB s.sd.n s.cs.length s.sd.K k l) ∧ newer W w') := Lib.hid (fun W hW => path_any s ws wa wc W (HOK.out.1.next hW) ((HOK.out.2.below hW).more hW.size) hs hle)
    have HSL : Hid (∀ W, newer w W → Calls Try.prog 19 #[smV s] W fun e w' => ∃ s2 : Sm, e = .returned (smV s2) ∧ (∀ W2, newer w' W2 → Calls Try.prog 25 #[smV s2] W2 fun e w3 => ∃ (a : Int) (A : Option Addr) (n c : Nat), e = .returned (.tuple #[.agg #[vi a, .slice A n c], vi (wV s.sd), vi (wE s.sd)]) ∧ newer W2 w3) ∧ newer W w') := Lib.hid (fun W hW => slope_chain s _ W (HOK.out.1.next hW) rfl hs)
    have HWT : Hid (∀ W, newer w W → Calls Try.prog 39 #[smV s, vi 0] W fun e w' => ∃ s2 : Sm, e = .returned (smV s2) ∧ s2.sd = s.sd ∧ SmOwn W.heap.size s2 w' ∧ newer W w') := Lib.hid (fun W hW => by
      refine (wetterO_any s 0 W (HOK.out.1.next hW) hs (by omega) (by omega)).mono ?_
      rintro e w' ⟨s2, h1, h2, _, h3, h4⟩
      exact ⟨s2, h1, by rw [h2, wet_zero hs], h3, h4⟩)
    clear hs few hle
    go_enter Try.func8, Try.ntmps8
    go_wp2_with fail
    refine (HRD.out).mono ?_
    rintro e w6 ⟨rfl, hb⟩
    have H7 := Lib.hid (And.intro ((newer_trans H1.out.1 hb)) ((H1.out.2.below hb H1.out.2.lt)))
    clear hb HRD H1 x0 x1
    have x0 := H7.out.2.at 0 (v := .slice s.a s.cs.length s.c) rfl
    have x1 := H7.out.2.at 1 (v := vi s.least) rfl
    go_wp2_with fail
    refine (HWT.out _ H7.out.1).mono ?_
    rintro e w8 ⟨s3, rfl, hd3, ho3, hb⟩
    have H9 := Lib.hid (And.intro ((newer_trans H7.out.1 hb)) (And.intro ((H7.out.2.below hb H7.out.2.lt)) (ho3.more H7.out.1.size)))
    clear hb ho3 HWT H7 x0 x1
    have hl3 : s3.cs.length = s.cs.length := by have h := congrArg (fun d => d.cols.length) hd3; rw [sd_len, sd_len] at h; exact h
    have HD3 := Lib.hid (And.intro hd3 hl3)
    clear hd3 hl3
    have hnA := newer_allocH w8 (.cells (smC s3) 24)
    have hwA := Whole.made w8 24 (smC s3)
    go_upto_region 4 with fail
    have H10 := Lib.hid (And.intro ((newer_trans H9.out.1 hnA)) (And.intro ((H9.out.2.1.below hnA H9.out.2.1.lt)) (And.intro ((H9.out.2.2.next hnA)) (hwA))))
    clear hnA hwA H9
    refine genQ (fun X => newer w X ∧ Whole X w.heap.size 24 (smC s) ∧ SmOwn w.heap.size s3 X ∧ Whole X w8.heap.size 24 (smC s3)) ⟨H10.out.1, H10.out.2.1, H10.out.2.2.1, H10.out.2.2.2⟩ ?_
    rintro w11 ⟨g0_, g1_, g2_, g3_⟩
    have H12 := Lib.hid (And.intro (g0_) (And.intro (g1_) (And.intro (g2_) (g3_))))
    clear g0_ g1_ g2_ g3_ H10
    obtain ⟨xq, hxq⟩ : ∃ q, q = w8.heap.size := ⟨_, rfl⟩
    rw [← hxq] at H12 ⊢
    clear hxq
    have hl3 := HD3.out.2
    obtain ⟨kc, hkc⟩ : ∃ k, k = c2 % s3.cs.length := ⟨_, rfl⟩
    have hkl : kc < s3.cs.length := by rw [hkc]; exact Nat.mod_lt _ (by omega)
    obtain ⟨x, hx⟩ := get_of_lt hkl
    obtain ⟨sa, so_, ea, _, cx⟩ := rowC H12.out.2.2.1.ok.cs hx
    obtain ⟨g, hg, hgo⟩ := H12.out.2.2.1.col x (List.mem_of_getElem? hx)
    have hxm : x.beds ∈ s.sd.cols := by rw [← HD3.out.1]; exact List.mem_map.2 ⟨x, List.mem_of_getElem? hx, rfl⟩
    have hxn : x.beds.length ≤ 5 ∧ 1 ≤ x.beds.length := by have h1 := HSD.out.len _ hxm; have h2 := HSD.out.beds; omega
    obtain ⟨kb, hkb⟩ : ∃ k, k = c3 % x.beds.length := ⟨_, rfl⟩
    have hbl : kb < x.beds.length := by rw [hkb]; exact Nat.mod_lt _ (by omega)
    obtain ⟨b, hb0⟩ := get_of_lt hbl
    have hbb := HSD.out.bd _ hxm b (List.mem_of_getElem? hb0)
    have hbp := bdB_parts hbb
    have hbat : bedAt s.sd.cols kc kb = some b := by rw [← HD3.out.1]; unfold bedAt Sm.sd; dsimp only; rw [List.getElem?_map, hx]; exact hb0
    obtain ⟨j, hj⟩ : ∃ j, j = c4 % 5 := ⟨_, rfl⟩
    have hj5 : j < 5 := by omega
    have hji : (c4 : Int) % 5 = j := by omega
    have HCK := Lib.hid (ch_known HSD.out (n := c5) hj5 (by omega) hbat)
    obtain ⟨s6, hs6⟩ : ∃ s6 : Sm, s6 = ⟨s3.cs.set kc ⟨x.beds.set kb (chBd j c5 b), x.a, x.cp⟩, s3.a, s3.c, s3.least⟩ := ⟨_, rfl⟩
    have HPT : Hid (∀ (i : Nat) (v : Value) W, newer w11 W → i < 8 → bdL (chBd j c5 b) = (bdL b).set i v → newer w (W.setCell ⟨g, kb * 8 + i, none⟩ v) ∧ Whole (W.setCell ⟨g, kb * 8 + i, none⟩ v) w.heap.size 24 (smC s) ∧ SmOk s6 (W.setCell ⟨g, kb * 8 + i, none⟩ v) ∧ Whole (W.setCell ⟨g, kb * 8 + i, none⟩ v) xq 24 (smC s3)) := Lib.hid (fun i v W hW hi he => by
      obtain ⟨h1, _, h3⟩ := (H12.out.2.2.1.next hW).put hx hg hb0 hi he
      obtain ⟨cs9, hcs9⟩ := own_cells (own_below hgo hW)
      have k1 := H12.out.2.1.below hW H12.out.2.1.lt
      have k2 := H12.out.2.2.2.below hW H12.out.2.2.2.lt
      rw [hs6]
      exact ⟨(newer_trans H12.out.1 hW).setCell (p := ⟨g, kb * 8 + i, none⟩) h3 v, k1.far (p := ⟨g, kb * 8 + i, none⟩) (k1.ne hcs9 (by decide)) v, h1, k2.far (p := ⟨g, kb * 8 + i, none⟩) (k2.ne hcs9 (by decide)) v⟩)
    have HD6 : Hid (s6.sd = chS s.sd kc kb (chBd j c5 b) ∧ smV s6 = .agg #[.slice s3.a s3.cs.length s3.c, vi s3.least]) := Lib.hid (by
      rw [hs6]
      refine ⟨?_, by simp [smV, smC]⟩
      rw [← HD3.out.1]
      unfold chS Sm.sd
      dsimp only
      have e : (s3.cs.map fun x => x.beds).getD kc [] = x.beds := by simp [List.getD, hx]
      rw [List.map_set, e])
    have HBD : Hid (∀ W, newer w11 W → Whole8 W g (kb * 8) b) := Lib.hid (fun W hW => whole8 (own_below hgo hW) rfl hb0)
    have HEA := Lib.hid ea
    have HCX := Lib.hid cx
    have e37 : IntKind.i64.wrap (c2 : Int) = c2 := IntWalk.i64_in _ (by omega)
    have e41 : (c2 : Int).tmod s3.cs.length = kc := by rw [hkc, Int.tmod_eq_emod_of_nonneg (by omega)]; exact (Int.natCast_emod _ _).symm
    have hcne : ¬ (s3.cs = []) := by intro h; rw [h] at hkl; simp at hkl
    have hkci : (kc : Int) < s3.cs.length := by omega
    rw [hg] at cx
    have z0 := H12.out.2.2.2.at 0 (v := .slice s3.a s3.cs.length s3.c) rfl
    have z1 := H12.out.2.2.2.at 1 (v := vi s3.least) rfl
    rw [ea] at z0
    clear hl3 hkc hx hg hgo hxm hb0 hbb hbat hs6 ea hj
    refine wp_words (by kernel_rfl) (region_told 10 (by kernel_rfl) (by kernel_rfl) (fun W => Below w11.heap.size w11 W) newer (pickD [vIs (.pointer (some ⟨xq, 0, none⟩)), vIs (.slice (some ⟨sa, so_, none⟩) s3.cs.length s3.c), vIs (.int .u8 c2), vIs (vi c2), vIs (.pointer (some ⟨xq, 0, none⟩)), vIs (.slice (some ⟨sa, so_, none⟩) s3.cs.length s3.c), vIs (.int .i64 s3.cs.length), vIs (vi kc), vIs (.pointer (some ⟨sa, so_ + kc, none⟩)), vIs (.slice (some ⟨g, 0, none⟩) x.beds.length x.cp)]) (fun h k => newer_trans h k) (pickD_stable _ ⟨vIs_st, vIs_st, vIs_st, vIs_st, vIs_st, vIs_st, vIs_st, vIs_st, vIs_st, vIs_st, trivial⟩) (Below.refl _ w11).drew (Below.refl _ _) ?_ ?_)
    · refine ⟨?_, ?_, ?_, ?_, ?_, ?_, ?_, ?_, ?_, ?_, trivial⟩
      · intro a W hG hR hO hp
        have h13 := hO.slot 13 (by kernel_rfl)
        refine wp_yields (v := .pointer (some ⟨xq, 0, none⟩)) ?_ ⟨_, rfl, rfl, Below.refl _ _, hG⟩
        simp [slotOf] at h13
        simp [execOp, go_sem, h13]
      · intro a W hG hR hO hp
        have h34 : slotOf a 34 = .pointer (some ⟨xq, 0, none⟩) := hp.1
        have c0 := keep_cell z0 hG
        refine wp_yields (v := .slice (some ⟨sa, so_, none⟩) s3.cs.length s3.c) ?_ ⟨_, rfl, rfl, Below.refl _ _, hG⟩
        simp [slotOf] at h34
        simp [execOp, go_sem, h34, c0]
      · intro a W hG hR hO hp
        have h2 := hO.slot 2 (by kernel_rfl)
        refine wp_yields (v := .int .u8 c2) ?_ ⟨_, rfl, rfl, Below.refl _ _, hG⟩
        simp [slotOf] at h2
        simp [execOp, go_sem, h2]
      · intro a W hG hR hO hp
        have h36 : slotOf a 36 = .int .u8 c2 := hp.1
        refine wp_yields (v := vi c2) ?_ ⟨_, rfl, rfl, Below.refl _ _, hG⟩
        simp [slotOf] at h36
        simp [execOp, go_sem, h36, e37]
      · intro a W hG hR hO hp
        have h13 := hO.slot 13 (by kernel_rfl)
        refine wp_yields (v := .pointer (some ⟨xq, 0, none⟩)) ?_ ⟨_, rfl, rfl, Below.refl _ _, hG⟩
        simp [slotOf] at h13
        simp [execOp, go_sem, h13]
      · intro a W hG hR hO hp
        have h38 : slotOf a 38 = .pointer (some ⟨xq, 0, none⟩) := hp.1
        have c0 := keep_cell z0 hG
        refine wp_yields (v := .slice (some ⟨sa, so_, none⟩) s3.cs.length s3.c) ?_ ⟨_, rfl, rfl, Below.refl _ _, hG⟩
        simp [slotOf] at h38
        simp [execOp, go_sem, h38, c0]
      · intro a W hG hR hO hp
        have h39 : slotOf a 39 = .slice (some ⟨sa, so_, none⟩) s3.cs.length s3.c := hp.1
        refine wp_yields (v := .int .i64 s3.cs.length) ?_ ⟨_, rfl, rfl, Below.refl _ _, hG⟩
        simp [slotOf] at h39
        simp [go_sem, h39]
      · intro a W hG hR hO hp
        have h37 : slotOf a 37 = vi c2 := hp.1
        have h40 : slotOf a 40 = .int .i64 s3.cs.length := hp.2.1
        refine wp_yields (v := vi kc) ?_ ⟨_, rfl, rfl, Below.refl _ _, hG⟩
        simp [slotOf] at h37 h40
        simp [execOp, go_sem, h37, h40, e41, hcne]
      · intro a W hG hR hO hp
        have h35 : slotOf a 35 = .slice (some ⟨sa, so_, none⟩) s3.cs.length s3.c := hp.1
        have h41 : slotOf a 41 = vi kc := hp.2.1
        refine wp_yields (v := .pointer (some ⟨sa, so_ + kc, none⟩)) ?_ ⟨_, rfl, rfl, Below.refl _ _, hG⟩
        simp [slotOf] at h35 h41
        simp [execOp, go_sem, h35, h41, hkci]
      · intro a W hG hR hO hp
        have h42 : slotOf a 42 = .pointer (some ⟨sa, so_ + kc, none⟩) := hp.1
        have c0 := keep_cell cx hG
        refine wp_yields (v := .slice (some ⟨g, 0, none⟩) x.beds.length x.cp) ?_ ⟨_, rfl, rfl, Below.refl _ _, hG⟩
        simp [slotOf] at h42
        simp [execOp, go_sem, h42, c0]
    · intro w70 hG hR
      rintro _ rfl _ rfl _ rfl _ rfl _ rfl _ rfl _ rfl _ rfl _ rfl _ rfl
      change wpList _ _ _ _ _ _
      simp only [Act.put, List.setIfInBounds_toArray, List.set_cons_zero, List.set_cons_succ, List.drop_succ_cons, List.drop_zero]
      have HG7 := Lib.hid hG
      have H13 := Lib.hid (And.intro ((newer_trans H12.out.1 hG)) (And.intro ((H12.out.2.1.below hG H12.out.2.1.lt)) (And.intro ((H12.out.2.2.1.next hG)) ((H12.out.2.2.2.below hG H12.out.2.2.2.lt)))))
      clear hG hR cx e37 e41 hcne hkci H12 z0 z1
      have hkbi : (kb : Int) < x.beds.length := by omega
      have e46 : IntKind.i64.wrap (c3 : Int) = c3 := IntWalk.i64_in _ (by omega)
      have e49 : (c3 : Int) % x.beds.length = kb := by rw [hkb]; exact (Int.natCast_emod _ _).symm
      have hbne : ¬ (x.beds = []) := by intro h; rw [h] at hbl; simp at hbl
      clear hkb
      go_upto_block 0 with fail
      simp only [e49, hji]
      go_cut [] from 55 to 140 (fun wx => newer w wx ∧ Whole wx w.heap.size 24 (smC s) ∧ SmOk s6 wx ∧ Whole wx xq 24 (smC s3))
      case first =>
        rcases ch_cases j hj5 with rfl | rfl | rfl | rfl | rfl
        · have hq8 := HBD.out w70 HG7.out
          have d2 := hq8.c2
          have d3 := hq8.c3
          have df := hq8.f 2
          have e86 : IntKind.i64.wrap (b.fr.lo + (c5 : Int)) = b.fr.lo + (c5 : Int) := IntWalk.i64_in _ (by omega)
          obtain ⟨vv, hvv⟩ : ∃ v, v = mnI b.fr.hi (b.fr.lo + (c5 : Int)) := ⟨_, rfl⟩
          have HVV := Lib.hid hvv
          clear hvv
          go_upto_region 10 with fail
          refine wp_words (by kernel_rfl) (region_told 17 (by kernel_rfl) (by kernel_rfl) (fun W => Below w70.heap.size w70 W) newer (pickD [vIs (.pointer (some ⟨g, kb * 8, none⟩)), vIs (.pointer (some ⟨g, kb * 8, none⟩)), vIs (.pointer (some ⟨g, kb * 8, none⟩)), vIs (.pointer (some ⟨g, kb * 8 + 2, none⟩)), vIs (.pointer (some ⟨g, kb * 8 + 3, none⟩)), vIs (vi b.fr.hi), vIs (.pointer (some ⟨g, kb * 8, none⟩)), vIs (.pointer (some ⟨g, kb * 8, none⟩)), vIs (.pointer (some ⟨g, kb * 8 + 2, none⟩)), vIs (.pointer (some ⟨g, kb * 8 + 2, none⟩)), vIs (vi b.fr.lo), vIs (vi c5), vIs (vi (b.fr.lo + (c5 : Int))), vIs (vi vv), vIs (.pointer (some ⟨g, kb * 8, none⟩)), vIs (.pointer (some ⟨g, kb * 8 + 2, none⟩)), vIs (.pointer (some ⟨g, kb * 8 + 2, none⟩))]) (fun h k => newer_trans h k) (pickD_stable _ ⟨vIs_st, vIs_st, vIs_st, vIs_st, vIs_st, vIs_st, vIs_st, vIs_st, vIs_st, vIs_st, vIs_st, vIs_st, vIs_st, vIs_st, vIs_st, vIs_st, vIs_st, trivial⟩) (Below.refl _ w70).drew (Below.refl _ _) ?_ ?_)
          · refine ⟨?_, ?_, ?_, ?_, ?_, ?_, ?_, ?_, ?_, ?_, ?_, ?_, ?_, ?_, ?_, ?_, ?_, trivial⟩
            · intro a W hG hR hO hp
              have h15 := hO.slot 15 (by kernel_rfl)
              refine wp_yields (v := .pointer (some ⟨g, kb * 8, none⟩)) ?_ ⟨_, rfl, rfl, Below.refl _ _, hG⟩
              simp [slotOf] at h15
              simp [execOp, go_sem, h15]
            · intro a W hG hR hO hp
              have h15 := hO.slot 15 (by kernel_rfl)
              refine wp_yields (v := .pointer (some ⟨g, kb * 8, none⟩)) ?_ ⟨_, rfl, rfl, Below.refl _ _, hG⟩
              simp [slotOf] at h15
              simp [execOp, go_sem, h15]
            · intro a W hG hR hO hp
              have h75 : slotOf a 75 = .pointer (some ⟨g, kb * 8, none⟩) := hp.1
              refine wp_yields (v := .pointer (some ⟨g, kb * 8, none⟩)) ?_ ⟨_, rfl, rfl, Below.refl _ _, hG⟩
              simp [slotOf] at h75
              simp [execOp, go_sem, h75]
            · intro a W hG hR hO hp
              have h76 : slotOf a 76 = .pointer (some ⟨g, kb * 8, none⟩) := hp.1
              refine wp_yields (v := .pointer (some ⟨g, kb * 8 + 2, none⟩)) ?_ ⟨_, rfl, rfl, Below.refl _ _, hG⟩
              simp [slotOf] at h76
              simp [execOp, go_sem, h76]
            · intro a W hG hR hO hp
              have h77 : slotOf a 77 = .pointer (some ⟨g, kb * 8 + 2, none⟩) := hp.1
              refine wp_yields (v := .pointer (some ⟨g, kb * 8 + 3, none⟩)) ?_ ⟨_, rfl, rfl, Below.refl _ _, hG⟩
              simp [slotOf] at h77
              simp [execOp, go_sem, h77]
            · intro a W hG hR hO hp
              have h78 : slotOf a 78 = .pointer (some ⟨g, kb * 8 + 3, none⟩) := hp.1
              have c0 := keep_cell d3 hG
              refine wp_yields (v := vi b.fr.hi) ?_ ⟨_, rfl, rfl, Below.refl _ _, hG⟩
              simp [slotOf] at h78
              simp [execOp, go_sem, h78, c0]
            · intro a W hG hR hO hp
              have h15 := hO.slot 15 (by kernel_rfl)
              refine wp_yields (v := .pointer (some ⟨g, kb * 8, none⟩)) ?_ ⟨_, rfl, rfl, Below.refl _ _, hG⟩
              simp [slotOf] at h15
              simp [execOp, go_sem, h15]
            · intro a W hG hR hO hp
              have h80 : slotOf a 80 = .pointer (some ⟨g, kb * 8, none⟩) := hp.1
              refine wp_yields (v := .pointer (some ⟨g, kb * 8, none⟩)) ?_ ⟨_, rfl, rfl, Below.refl _ _, hG⟩
              simp [slotOf] at h80
              simp [execOp, go_sem, h80]
            · intro a W hG hR hO hp
              have h81 : slotOf a 81 = .pointer (some ⟨g, kb * 8, none⟩) := hp.1
              refine wp_yields (v := .pointer (some ⟨g, kb * 8 + 2, none⟩)) ?_ ⟨_, rfl, rfl, Below.refl _ _, hG⟩
              simp [slotOf] at h81
              simp [execOp, go_sem, h81]
            · intro a W hG hR hO hp
              have h82 : slotOf a 82 = .pointer (some ⟨g, kb * 8 + 2, none⟩) := hp.1
              refine wp_yields (v := .pointer (some ⟨g, kb * 8 + 2, none⟩)) ?_ ⟨_, rfl, rfl, Below.refl _ _, hG⟩
              simp [slotOf] at h82
              simp [execOp, go_sem, h82]
            · intro a W hG hR hO hp
              have h83 : slotOf a 83 = .pointer (some ⟨g, kb * 8 + 2, none⟩) := hp.1
              have c0 := keep_cell d2 hG
              refine wp_yields (v := vi b.fr.lo) ?_ ⟨_, rfl, rfl, Below.refl _ _, hG⟩
              simp [slotOf] at h83
              simp [execOp, go_sem, h83, c0]
            · intro a W hG hR hO hp
              have h16 := hO.slot 16 (by kernel_rfl)
              refine wp_yields (v := vi c5) ?_ ⟨_, rfl, rfl, Below.refl _ _, hG⟩
              simp [slotOf] at h16
              simp [execOp, go_sem, h16]
            · intro a W hG hR hO hp
              have h84 : slotOf a 84 = vi b.fr.lo := hp.1
              have h85 : slotOf a 85 = vi c5 := hp.2.1
              refine wp_yields (v := vi (b.fr.lo + (c5 : Int))) ?_ ⟨_, rfl, rfl, Below.refl _ _, hG⟩
              simp [slotOf] at h84 h85
              simp [execOp, go_sem, h84, h85, e86]
            · intro a W hG hR hO hp
              have h79 : slotOf a 79 = vi b.fr.hi := hp.1
              have h86 : slotOf a 86 = vi (b.fr.lo + (c5 : Int)) := hp.2.1
              refine wp_yields (v := vi vv) ?_ ⟨_, rfl, rfl, Below.refl _ _, hG⟩
              simp [slotOf] at h79 h86
              rw [HVV.out]
              simp [go_sem, h79, h86, mnI]
            · intro a W hG hR hO hp
              have h74 : slotOf a 74 = .pointer (some ⟨g, kb * 8, none⟩) := hp.1
              refine wp_yields (v := .pointer (some ⟨g, kb * 8, none⟩)) ?_ ⟨_, rfl, rfl, Below.refl _ _, hG⟩
              simp [slotOf] at h74
              simp [execOp, go_sem, h74]
            · intro a W hG hR hO hp
              have h88 : slotOf a 88 = .pointer (some ⟨g, kb * 8, none⟩) := hp.1
              refine wp_yields (v := .pointer (some ⟨g, kb * 8 + 2, none⟩)) ?_ ⟨_, rfl, rfl, Below.refl _ _, hG⟩
              simp [slotOf] at h88
              simp [execOp, go_sem, h88]
            · intro a W hG hR hO hp
              have h89 : slotOf a 89 = .pointer (some ⟨g, kb * 8 + 2, none⟩) := hp.1
              refine wp_yields (v := .pointer (some ⟨g, kb * 8 + 2, none⟩)) ?_ ⟨_, rfl, rfl, Below.refl _ _, hG⟩
              simp [slotOf] at h89
              simp [execOp, go_sem, h89]
          · intro w71 hG hR
            rintro _ rfl _ rfl _ rfl _ rfl _ rfl _ rfl _ rfl _ rfl _ rfl _ rfl _ rfl _ rfl _ rfl _ rfl _ rfl _ rfl _ rfl
            change wpList _ _ _ _ _ _
            simp only [Act.put, List.setIfInBounds_toArray, List.set_cons_zero, List.set_cons_succ, List.drop_succ_cons, List.drop_zero]
            have HV := Lib.hid (HPT.out 2 (vi vv) w71 (newer_trans HG7.out hG) (by omega) (by rw [HVV.out]; rfl))
            have d9 := keep_cell d2 hG
            have f9 := (HBD.out w71 (newer_trans HG7.out hG)).f 2
            clear hG hR hq8 df d2 d3
            go_wp2_with fail
            go_meet
            exact HV.out
        · have hq8 := HBD.out w70 HG7.out
          have d4 := hq8.c4
          have d5 := hq8.c5
          have df := hq8.f 4
          have e86 : IntKind.i64.wrap (b.co.lo + (c5 : Int)) = b.co.lo + (c5 : Int) := IntWalk.i64_in _ (by omega)
          obtain ⟨vv, hvv⟩ : ∃ v, v = mnI b.co.hi (b.co.lo + (c5 : Int)) := ⟨_, rfl⟩
          have HVV := Lib.hid hvv
          clear hvv
          go_upto_region 12 with fail
          refine wp_words (by kernel_rfl) (region_told 17 (by kernel_rfl) (by kernel_rfl) (fun W => Below w70.heap.size w70 W) newer (pickD [vIs (.pointer (some ⟨g, kb * 8, none⟩)), vIs (.pointer (some ⟨g, kb * 8, none⟩)), vIs (.pointer (some ⟨g, kb * 8, none⟩)), vIs (.pointer (some ⟨g, kb * 8 + 4, none⟩)), vIs (.pointer (some ⟨g, kb * 8 + 5, none⟩)), vIs (vi b.co.hi), vIs (.pointer (some ⟨g, kb * 8, none⟩)), vIs (.pointer (some ⟨g, kb * 8, none⟩)), vIs (.pointer (some ⟨g, kb * 8 + 4, none⟩)), vIs (.pointer (some ⟨g, kb * 8 + 4, none⟩)), vIs (vi b.co.lo), vIs (vi c5), vIs (vi (b.co.lo + (c5 : Int))), vIs (vi vv), vIs (.pointer (some ⟨g, kb * 8, none⟩)), vIs (.pointer (some ⟨g, kb * 8 + 4, none⟩)), vIs (.pointer (some ⟨g, kb * 8 + 4, none⟩))]) (fun h k => newer_trans h k) (pickD_stable _ ⟨vIs_st, vIs_st, vIs_st, vIs_st, vIs_st, vIs_st, vIs_st, vIs_st, vIs_st, vIs_st, vIs_st, vIs_st, vIs_st, vIs_st, vIs_st, vIs_st, vIs_st, trivial⟩) (Below.refl _ w70).drew (Below.refl _ _) ?_ ?_)
          · refine ⟨?_, ?_, ?_, ?_, ?_, ?_, ?_, ?_, ?_, ?_, ?_, ?_, ?_, ?_, ?_, ?_, ?_, trivial⟩
            · intro a W hG hR hO hp
              have h15 := hO.slot 15 (by kernel_rfl)
              refine wp_yields (v := .pointer (some ⟨g, kb * 8, none⟩)) ?_ ⟨_, rfl, rfl, Below.refl _ _, hG⟩
              simp [slotOf] at h15
              simp [execOp, go_sem, h15]
            · intro a W hG hR hO hp
              have h15 := hO.slot 15 (by kernel_rfl)
              refine wp_yields (v := .pointer (some ⟨g, kb * 8, none⟩)) ?_ ⟨_, rfl, rfl, Below.refl _ _, hG⟩
              simp [slotOf] at h15
              simp [execOp, go_sem, h15]
            · intro a W hG hR hO hp
              have h94 : slotOf a 94 = .pointer (some ⟨g, kb * 8, none⟩) := hp.1
              refine wp_yields (v := .pointer (some ⟨g, kb * 8, none⟩)) ?_ ⟨_, rfl, rfl, Below.refl _ _, hG⟩
              simp [slotOf] at h94
              simp [execOp, go_sem, h94]
            · intro a W hG hR hO hp
              have h95 : slotOf a 95 = .pointer (some ⟨g, kb * 8, none⟩) := hp.1
              refine wp_yields (v := .pointer (some ⟨g, kb * 8 + 4, none⟩)) ?_ ⟨_, rfl, rfl, Below.refl _ _, hG⟩
              simp [slotOf] at h95
              simp [execOp, go_sem, h95]
            · intro a W hG hR hO hp
              have h96 : slotOf a 96 = .pointer (some ⟨g, kb * 8 + 4, none⟩) := hp.1
              refine wp_yields (v := .pointer (some ⟨g, kb * 8 + 5, none⟩)) ?_ ⟨_, rfl, rfl, Below.refl _ _, hG⟩
              simp [slotOf] at h96
              simp [execOp, go_sem, h96]
            · intro a W hG hR hO hp
              have h97 : slotOf a 97 = .pointer (some ⟨g, kb * 8 + 5, none⟩) := hp.1
              have c0 := keep_cell d5 hG
              refine wp_yields (v := vi b.co.hi) ?_ ⟨_, rfl, rfl, Below.refl _ _, hG⟩
              simp [slotOf] at h97
              simp [execOp, go_sem, h97, c0]
            · intro a W hG hR hO hp
              have h15 := hO.slot 15 (by kernel_rfl)
              refine wp_yields (v := .pointer (some ⟨g, kb * 8, none⟩)) ?_ ⟨_, rfl, rfl, Below.refl _ _, hG⟩
              simp [slotOf] at h15
              simp [execOp, go_sem, h15]
            · intro a W hG hR hO hp
              have h99 : slotOf a 99 = .pointer (some ⟨g, kb * 8, none⟩) := hp.1
              refine wp_yields (v := .pointer (some ⟨g, kb * 8, none⟩)) ?_ ⟨_, rfl, rfl, Below.refl _ _, hG⟩
              simp [slotOf] at h99
              simp [execOp, go_sem, h99]
            · intro a W hG hR hO hp
              have h100 : slotOf a 100 = .pointer (some ⟨g, kb * 8, none⟩) := hp.1
              refine wp_yields (v := .pointer (some ⟨g, kb * 8 + 4, none⟩)) ?_ ⟨_, rfl, rfl, Below.refl _ _, hG⟩
              simp [slotOf] at h100
              simp [execOp, go_sem, h100]
            · intro a W hG hR hO hp
              have h101 : slotOf a 101 = .pointer (some ⟨g, kb * 8 + 4, none⟩) := hp.1
              refine wp_yields (v := .pointer (some ⟨g, kb * 8 + 4, none⟩)) ?_ ⟨_, rfl, rfl, Below.refl _ _, hG⟩
              simp [slotOf] at h101
              simp [execOp, go_sem, h101]
            · intro a W hG hR hO hp
              have h102 : slotOf a 102 = .pointer (some ⟨g, kb * 8 + 4, none⟩) := hp.1
              have c0 := keep_cell d4 hG
              refine wp_yields (v := vi b.co.lo) ?_ ⟨_, rfl, rfl, Below.refl _ _, hG⟩
              simp [slotOf] at h102
              simp [execOp, go_sem, h102, c0]
            · intro a W hG hR hO hp
              have h16 := hO.slot 16 (by kernel_rfl)
              refine wp_yields (v := vi c5) ?_ ⟨_, rfl, rfl, Below.refl _ _, hG⟩
              simp [slotOf] at h16
              simp [execOp, go_sem, h16]
            · intro a W hG hR hO hp
              have h103 : slotOf a 103 = vi b.co.lo := hp.1
              have h104 : slotOf a 104 = vi c5 := hp.2.1
              refine wp_yields (v := vi (b.co.lo + (c5 : Int))) ?_ ⟨_, rfl, rfl, Below.refl _ _, hG⟩
              simp [slotOf] at h103 h104
              simp [execOp, go_sem, h103, h104, e86]
            · intro a W hG hR hO hp
              have h98 : slotOf a 98 = vi b.co.hi := hp.1
              have h105 : slotOf a 105 = vi (b.co.lo + (c5 : Int)) := hp.2.1
              refine wp_yields (v := vi vv) ?_ ⟨_, rfl, rfl, Below.refl _ _, hG⟩
              simp [slotOf] at h98 h105
              rw [HVV.out]
              simp [go_sem, h98, h105, mnI]
            · intro a W hG hR hO hp
              have h93 : slotOf a 93 = .pointer (some ⟨g, kb * 8, none⟩) := hp.1
              refine wp_yields (v := .pointer (some ⟨g, kb * 8, none⟩)) ?_ ⟨_, rfl, rfl, Below.refl _ _, hG⟩
              simp [slotOf] at h93
              simp [execOp, go_sem, h93]
            · intro a W hG hR hO hp
              have h107 : slotOf a 107 = .pointer (some ⟨g, kb * 8, none⟩) := hp.1
              refine wp_yields (v := .pointer (some ⟨g, kb * 8 + 4, none⟩)) ?_ ⟨_, rfl, rfl, Below.refl _ _, hG⟩
              simp [slotOf] at h107
              simp [execOp, go_sem, h107]
            · intro a W hG hR hO hp
              have h108 : slotOf a 108 = .pointer (some ⟨g, kb * 8 + 4, none⟩) := hp.1
              refine wp_yields (v := .pointer (some ⟨g, kb * 8 + 4, none⟩)) ?_ ⟨_, rfl, rfl, Below.refl _ _, hG⟩
              simp [slotOf] at h108
              simp [execOp, go_sem, h108]
          · intro w71 hG hR
            rintro _ rfl _ rfl _ rfl _ rfl _ rfl _ rfl _ rfl _ rfl _ rfl _ rfl _ rfl _ rfl _ rfl _ rfl _ rfl _ rfl _ rfl
            change wpList _ _ _ _ _ _
            simp only [Act.put, List.setIfInBounds_toArray, List.set_cons_zero, List.set_cons_succ, List.drop_succ_cons, List.drop_zero]
            have HV := Lib.hid (HPT.out 4 (vi vv) w71 (newer_trans HG7.out hG) (by omega) (by rw [HVV.out]; rfl))
            have d9 := keep_cell d4 hG
            have f9 := (HBD.out w71 (newer_trans HG7.out hG)).f 4
            clear hG hR hq8 df d4 d5
            go_wp2_with fail
            go_meet
            exact HV.out
        · have hq8 := HBD.out w70 HG7.out
          have d0 := hq8.c0
          have df := hq8.f 0
          rw [Nat.add_zero] at df
          by_cases hmx : -100000 < b.drive - (c5 : Int)
          · have HV := Lib.hid (HPT.out 0 (vi (b.drive - (c5 : Int))) w70 HG7.out (by omega) (by rw [show (b.drive - (c5 : Int)) = mxI (-100000) (b.drive - c5) by unfold mxI; split <;> omega]; rfl))
            rw [Nat.add_zero] at HV
            clear hq8
            go_wp2_with fail
            go_meet
            exact HV.out
          · have HV := Lib.hid (HPT.out 0 (vi (-100000)) w70 HG7.out (by omega) (by rw [show (-100000) = mxI (-100000) (b.drive - c5) by unfold mxI; split <;> omega]; rfl))
            rw [Nat.add_zero] at HV
            clear hq8
            go_wp2_with fail
            go_meet
            exact HV.out
        · have hq8 := HBD.out w70 HG7.out
          have d6 := hq8.c6
          have d7 := hq8.c7
          have df := hq8.f 7
          have e86 : IntKind.i64.wrap (b.wa.hi - (c5 : Int)) = b.wa.hi - (c5 : Int) := IntWalk.i64_in _ (by omega)
          obtain ⟨vv, hvv⟩ : ∃ v, v = mxI b.wa.lo (b.wa.hi - (c5 : Int)) := ⟨_, rfl⟩
          have HVV := Lib.hid hvv
          clear hvv
          go_upto_region 16 with fail
          refine wp_words (by kernel_rfl) (region_told 17 (by kernel_rfl) (by kernel_rfl) (fun W => Below w70.heap.size w70 W) newer (pickD [vIs (.pointer (some ⟨g, kb * 8, none⟩)), vIs (.pointer (some ⟨g, kb * 8, none⟩)), vIs (.pointer (some ⟨g, kb * 8, none⟩)), vIs (.pointer (some ⟨g, kb * 8 + 6, none⟩)), vIs (.pointer (some ⟨g, kb * 8 + 6, none⟩)), vIs (vi b.wa.lo), vIs (.pointer (some ⟨g, kb * 8, none⟩)), vIs (.pointer (some ⟨g, kb * 8, none⟩)), vIs (.pointer (some ⟨g, kb * 8 + 6, none⟩)), vIs (.pointer (some ⟨g, kb * 8 + 7, none⟩)), vIs (vi b.wa.hi), vIs (vi c5), vIs (vi (b.wa.hi - (c5 : Int))), vIs (vi vv), vIs (.pointer (some ⟨g, kb * 8, none⟩)), vIs (.pointer (some ⟨g, kb * 8 + 6, none⟩)), vIs (.pointer (some ⟨g, kb * 8 + 7, none⟩))]) (fun h k => newer_trans h k) (pickD_stable _ ⟨vIs_st, vIs_st, vIs_st, vIs_st, vIs_st, vIs_st, vIs_st, vIs_st, vIs_st, vIs_st, vIs_st, vIs_st, vIs_st, vIs_st, vIs_st, vIs_st, vIs_st, trivial⟩) (Below.refl _ w70).drew (Below.refl _ _) ?_ ?_)
          · refine ⟨?_, ?_, ?_, ?_, ?_, ?_, ?_, ?_, ?_, ?_, ?_, ?_, ?_, ?_, ?_, ?_, ?_, trivial⟩
            · intro a W hG hR hO hp
              have h15 := hO.slot 15 (by kernel_rfl)
              refine wp_yields (v := .pointer (some ⟨g, kb * 8, none⟩)) ?_ ⟨_, rfl, rfl, Below.refl _ _, hG⟩
              simp [slotOf] at h15
              simp [execOp, go_sem, h15]
            · intro a W hG hR hO hp
              have h15 := hO.slot 15 (by kernel_rfl)
              refine wp_yields (v := .pointer (some ⟨g, kb * 8, none⟩)) ?_ ⟨_, rfl, rfl, Below.refl _ _, hG⟩
              simp [slotOf] at h15
              simp [execOp, go_sem, h15]
            · intro a W hG hR hO hp
              have h125 : slotOf a 125 = .pointer (some ⟨g, kb * 8, none⟩) := hp.1
              refine wp_yields (v := .pointer (some ⟨g, kb * 8, none⟩)) ?_ ⟨_, rfl, rfl, Below.refl _ _, hG⟩
              simp [slotOf] at h125
              simp [execOp, go_sem, h125]
            · intro a W hG hR hO hp
              have h126 : slotOf a 126 = .pointer (some ⟨g, kb * 8, none⟩) := hp.1
              refine wp_yields (v := .pointer (some ⟨g, kb * 8 + 6, none⟩)) ?_ ⟨_, rfl, rfl, Below.refl _ _, hG⟩
              simp [slotOf] at h126
              simp [execOp, go_sem, h126]
            · intro a W hG hR hO hp
              have h127 : slotOf a 127 = .pointer (some ⟨g, kb * 8 + 6, none⟩) := hp.1
              refine wp_yields (v := .pointer (some ⟨g, kb * 8 + 6, none⟩)) ?_ ⟨_, rfl, rfl, Below.refl _ _, hG⟩
              simp [slotOf] at h127
              simp [execOp, go_sem, h127]
            · intro a W hG hR hO hp
              have h128 : slotOf a 128 = .pointer (some ⟨g, kb * 8 + 6, none⟩) := hp.1
              have c0 := keep_cell d6 hG
              refine wp_yields (v := vi b.wa.lo) ?_ ⟨_, rfl, rfl, Below.refl _ _, hG⟩
              simp [slotOf] at h128
              simp [execOp, go_sem, h128, c0]
            · intro a W hG hR hO hp
              have h15 := hO.slot 15 (by kernel_rfl)
              refine wp_yields (v := .pointer (some ⟨g, kb * 8, none⟩)) ?_ ⟨_, rfl, rfl, Below.refl _ _, hG⟩
              simp [slotOf] at h15
              simp [execOp, go_sem, h15]
            · intro a W hG hR hO hp
              have h130 : slotOf a 130 = .pointer (some ⟨g, kb * 8, none⟩) := hp.1
              refine wp_yields (v := .pointer (some ⟨g, kb * 8, none⟩)) ?_ ⟨_, rfl, rfl, Below.refl _ _, hG⟩
              simp [slotOf] at h130
              simp [execOp, go_sem, h130]
            · intro a W hG hR hO hp
              have h131 : slotOf a 131 = .pointer (some ⟨g, kb * 8, none⟩) := hp.1
              refine wp_yields (v := .pointer (some ⟨g, kb * 8 + 6, none⟩)) ?_ ⟨_, rfl, rfl, Below.refl _ _, hG⟩
              simp [slotOf] at h131
              simp [execOp, go_sem, h131]
            · intro a W hG hR hO hp
              have h132 : slotOf a 132 = .pointer (some ⟨g, kb * 8 + 6, none⟩) := hp.1
              refine wp_yields (v := .pointer (some ⟨g, kb * 8 + 7, none⟩)) ?_ ⟨_, rfl, rfl, Below.refl _ _, hG⟩
              simp [slotOf] at h132
              simp [execOp, go_sem, h132]
            · intro a W hG hR hO hp
              have h133 : slotOf a 133 = .pointer (some ⟨g, kb * 8 + 7, none⟩) := hp.1
              have c0 := keep_cell d7 hG
              refine wp_yields (v := vi b.wa.hi) ?_ ⟨_, rfl, rfl, Below.refl _ _, hG⟩
              simp [slotOf] at h133
              simp [execOp, go_sem, h133, c0]
            · intro a W hG hR hO hp
              have h16 := hO.slot 16 (by kernel_rfl)
              refine wp_yields (v := vi c5) ?_ ⟨_, rfl, rfl, Below.refl _ _, hG⟩
              simp [slotOf] at h16
              simp [execOp, go_sem, h16]
            · intro a W hG hR hO hp
              have h134 : slotOf a 134 = vi b.wa.hi := hp.1
              have h135 : slotOf a 135 = vi c5 := hp.2.1
              refine wp_yields (v := vi (b.wa.hi - (c5 : Int))) ?_ ⟨_, rfl, rfl, Below.refl _ _, hG⟩
              simp [slotOf] at h134 h135
              simp [execOp, go_sem, h134, h135, e86]
            · intro a W hG hR hO hp
              have h129 : slotOf a 129 = vi b.wa.lo := hp.1
              have h136 : slotOf a 136 = vi (b.wa.hi - (c5 : Int)) := hp.2.1
              refine wp_yields (v := vi vv) ?_ ⟨_, rfl, rfl, Below.refl _ _, hG⟩
              simp [slotOf] at h129 h136
              rw [HVV.out]
              simp [go_sem, h129, h136, mxI]
            · intro a W hG hR hO hp
              have h124 : slotOf a 124 = .pointer (some ⟨g, kb * 8, none⟩) := hp.1
              refine wp_yields (v := .pointer (some ⟨g, kb * 8, none⟩)) ?_ ⟨_, rfl, rfl, Below.refl _ _, hG⟩
              simp [slotOf] at h124
              simp [execOp, go_sem, h124]
            · intro a W hG hR hO hp
              have h138 : slotOf a 138 = .pointer (some ⟨g, kb * 8, none⟩) := hp.1
              refine wp_yields (v := .pointer (some ⟨g, kb * 8 + 6, none⟩)) ?_ ⟨_, rfl, rfl, Below.refl _ _, hG⟩
              simp [slotOf] at h138
              simp [execOp, go_sem, h138]
            · intro a W hG hR hO hp
              have h139 : slotOf a 139 = .pointer (some ⟨g, kb * 8 + 6, none⟩) := hp.1
              refine wp_yields (v := .pointer (some ⟨g, kb * 8 + 7, none⟩)) ?_ ⟨_, rfl, rfl, Below.refl _ _, hG⟩
              simp [slotOf] at h139
              simp [execOp, go_sem, h139]
          · intro w71 hG hR
            rintro _ rfl _ rfl _ rfl _ rfl _ rfl _ rfl _ rfl _ rfl _ rfl _ rfl _ rfl _ rfl _ rfl _ rfl _ rfl _ rfl _ rfl
            change wpList _ _ _ _ _ _
            simp only [Act.put, List.setIfInBounds_toArray, List.set_cons_zero, List.set_cons_succ, List.drop_succ_cons, List.drop_zero]
            have HV := Lib.hid (HPT.out 7 (vi vv) w71 (newer_trans HG7.out hG) (by omega) (by rw [HVV.out]; rfl))
            have d9 := keep_cell d7 hG
            have f9 := (HBD.out w71 (newer_trans HG7.out hG)).f 7
            clear hG hR hq8 df d6 d7
            go_wp2_with fail
            go_meet
            exact HV.out
        · have hq8 := HBD.out w70 HG7.out
          have d2 := hq8.c2
          have d3 := hq8.c3
          have df := hq8.f 3
          have e86 : IntKind.i64.wrap (b.fr.hi - (c5 : Int)) = b.fr.hi - (c5 : Int) := IntWalk.i64_in _ (by omega)
          obtain ⟨vv, hvv⟩ : ∃ v, v = mxI b.fr.lo (b.fr.hi - (c5 : Int)) := ⟨_, rfl⟩
          have HVV := Lib.hid hvv
          clear hvv
          go_upto_region 8 with fail
          refine wp_words (by kernel_rfl) (region_told 17 (by kernel_rfl) (by kernel_rfl) (fun W => Below w70.heap.size w70 W) newer (pickD [vIs (.pointer (some ⟨g, kb * 8, none⟩)), vIs (.pointer (some ⟨g, kb * 8, none⟩)), vIs (.pointer (some ⟨g, kb * 8, none⟩)), vIs (.pointer (some ⟨g, kb * 8 + 2, none⟩)), vIs (.pointer (some ⟨g, kb * 8 + 2, none⟩)), vIs (vi b.fr.lo), vIs (.pointer (some ⟨g, kb * 8, none⟩)), vIs (.pointer (some ⟨g, kb * 8, none⟩)), vIs (.pointer (some ⟨g, kb * 8 + 2, none⟩)), vIs (.pointer (some ⟨g, kb * 8 + 3, none⟩)), vIs (vi b.fr.hi), vIs (vi c5), vIs (vi (b.fr.hi - (c5 : Int))), vIs (vi vv), vIs (.pointer (some ⟨g, kb * 8, none⟩)), vIs (.pointer (some ⟨g, kb * 8 + 2, none⟩)), vIs (.pointer (some ⟨g, kb * 8 + 3, none⟩))]) (fun h k => newer_trans h k) (pickD_stable _ ⟨vIs_st, vIs_st, vIs_st, vIs_st, vIs_st, vIs_st, vIs_st, vIs_st, vIs_st, vIs_st, vIs_st, vIs_st, vIs_st, vIs_st, vIs_st, vIs_st, vIs_st, trivial⟩) (Below.refl _ w70).drew (Below.refl _ _) ?_ ?_)
          · refine ⟨?_, ?_, ?_, ?_, ?_, ?_, ?_, ?_, ?_, ?_, ?_, ?_, ?_, ?_, ?_, ?_, ?_, trivial⟩
            · intro a W hG hR hO hp
              have h15 := hO.slot 15 (by kernel_rfl)
              refine wp_yields (v := .pointer (some ⟨g, kb * 8, none⟩)) ?_ ⟨_, rfl, rfl, Below.refl _ _, hG⟩
              simp [slotOf] at h15
              simp [execOp, go_sem, h15]
            · intro a W hG hR hO hp
              have h15 := hO.slot 15 (by kernel_rfl)
              refine wp_yields (v := .pointer (some ⟨g, kb * 8, none⟩)) ?_ ⟨_, rfl, rfl, Below.refl _ _, hG⟩
              simp [slotOf] at h15
              simp [execOp, go_sem, h15]
            · intro a W hG hR hO hp
              have h56 : slotOf a 56 = .pointer (some ⟨g, kb * 8, none⟩) := hp.1
              refine wp_yields (v := .pointer (some ⟨g, kb * 8, none⟩)) ?_ ⟨_, rfl, rfl, Below.refl _ _, hG⟩
              simp [slotOf] at h56
              simp [execOp, go_sem, h56]
            · intro a W hG hR hO hp
              have h57 : slotOf a 57 = .pointer (some ⟨g, kb * 8, none⟩) := hp.1
              refine wp_yields (v := .pointer (some ⟨g, kb * 8 + 2, none⟩)) ?_ ⟨_, rfl, rfl, Below.refl _ _, hG⟩
              simp [slotOf] at h57
              simp [execOp, go_sem, h57]
            · intro a W hG hR hO hp
              have h58 : slotOf a 58 = .pointer (some ⟨g, kb * 8 + 2, none⟩) := hp.1
              refine wp_yields (v := .pointer (some ⟨g, kb * 8 + 2, none⟩)) ?_ ⟨_, rfl, rfl, Below.refl _ _, hG⟩
              simp [slotOf] at h58
              simp [execOp, go_sem, h58]
            · intro a W hG hR hO hp
              have h59 : slotOf a 59 = .pointer (some ⟨g, kb * 8 + 2, none⟩) := hp.1
              have c0 := keep_cell d2 hG
              refine wp_yields (v := vi b.fr.lo) ?_ ⟨_, rfl, rfl, Below.refl _ _, hG⟩
              simp [slotOf] at h59
              simp [execOp, go_sem, h59, c0]
            · intro a W hG hR hO hp
              have h15 := hO.slot 15 (by kernel_rfl)
              refine wp_yields (v := .pointer (some ⟨g, kb * 8, none⟩)) ?_ ⟨_, rfl, rfl, Below.refl _ _, hG⟩
              simp [slotOf] at h15
              simp [execOp, go_sem, h15]
            · intro a W hG hR hO hp
              have h61 : slotOf a 61 = .pointer (some ⟨g, kb * 8, none⟩) := hp.1
              refine wp_yields (v := .pointer (some ⟨g, kb * 8, none⟩)) ?_ ⟨_, rfl, rfl, Below.refl _ _, hG⟩
              simp [slotOf] at h61
              simp [execOp, go_sem, h61]
            · intro a W hG hR hO hp
              have h62 : slotOf a 62 = .pointer (some ⟨g, kb * 8, none⟩) := hp.1
              refine wp_yields (v := .pointer (some ⟨g, kb * 8 + 2, none⟩)) ?_ ⟨_, rfl, rfl, Below.refl _ _, hG⟩
              simp [slotOf] at h62
              simp [execOp, go_sem, h62]
            · intro a W hG hR hO hp
              have h63 : slotOf a 63 = .pointer (some ⟨g, kb * 8 + 2, none⟩) := hp.1
              refine wp_yields (v := .pointer (some ⟨g, kb * 8 + 3, none⟩)) ?_ ⟨_, rfl, rfl, Below.refl _ _, hG⟩
              simp [slotOf] at h63
              simp [execOp, go_sem, h63]
            · intro a W hG hR hO hp
              have h64 : slotOf a 64 = .pointer (some ⟨g, kb * 8 + 3, none⟩) := hp.1
              have c0 := keep_cell d3 hG
              refine wp_yields (v := vi b.fr.hi) ?_ ⟨_, rfl, rfl, Below.refl _ _, hG⟩
              simp [slotOf] at h64
              simp [execOp, go_sem, h64, c0]
            · intro a W hG hR hO hp
              have h16 := hO.slot 16 (by kernel_rfl)
              refine wp_yields (v := vi c5) ?_ ⟨_, rfl, rfl, Below.refl _ _, hG⟩
              simp [slotOf] at h16
              simp [execOp, go_sem, h16]
            · intro a W hG hR hO hp
              have h65 : slotOf a 65 = vi b.fr.hi := hp.1
              have h66 : slotOf a 66 = vi c5 := hp.2.1
              refine wp_yields (v := vi (b.fr.hi - (c5 : Int))) ?_ ⟨_, rfl, rfl, Below.refl _ _, hG⟩
              simp [slotOf] at h65 h66
              simp [execOp, go_sem, h65, h66, e86]
            · intro a W hG hR hO hp
              have h60 : slotOf a 60 = vi b.fr.lo := hp.1
              have h67 : slotOf a 67 = vi (b.fr.hi - (c5 : Int)) := hp.2.1
              refine wp_yields (v := vi vv) ?_ ⟨_, rfl, rfl, Below.refl _ _, hG⟩
              simp [slotOf] at h60 h67
              rw [HVV.out]
              simp [go_sem, h60, h67, mxI]
            · intro a W hG hR hO hp
              have h55 : slotOf a 55 = .pointer (some ⟨g, kb * 8, none⟩) := hp.1
              refine wp_yields (v := .pointer (some ⟨g, kb * 8, none⟩)) ?_ ⟨_, rfl, rfl, Below.refl _ _, hG⟩
              simp [slotOf] at h55
              simp [execOp, go_sem, h55]
            · intro a W hG hR hO hp
              have h69 : slotOf a 69 = .pointer (some ⟨g, kb * 8, none⟩) := hp.1
              refine wp_yields (v := .pointer (some ⟨g, kb * 8 + 2, none⟩)) ?_ ⟨_, rfl, rfl, Below.refl _ _, hG⟩
              simp [slotOf] at h69
              simp [execOp, go_sem, h69]
            · intro a W hG hR hO hp
              have h70 : slotOf a 70 = .pointer (some ⟨g, kb * 8 + 2, none⟩) := hp.1
              refine wp_yields (v := .pointer (some ⟨g, kb * 8 + 3, none⟩)) ?_ ⟨_, rfl, rfl, Below.refl _ _, hG⟩
              simp [slotOf] at h70
              simp [execOp, go_sem, h70]
          · intro w71 hG hR
            rintro _ rfl _ rfl _ rfl _ rfl _ rfl _ rfl _ rfl _ rfl _ rfl _ rfl _ rfl _ rfl _ rfl _ rfl _ rfl _ rfl _ rfl
            change wpList _ _ _ _ _ _
            simp only [Act.put, List.setIfInBounds_toArray, List.set_cons_zero, List.set_cons_succ, List.drop_succ_cons, List.drop_zero]
            have HV := Lib.hid (HPT.out 3 (vi vv) w71 (newer_trans HG7.out hG) (by omega) (by rw [HVV.out]; rfl))
            have d9 := keep_cell d3 hG
            have f9 := (HBD.out w71 (newer_trans HG7.out hG)).f 3
            clear hG hR hq8 df d2 d3
            go_wp2_with fail
            go_meet
            exact HV.out
      case rest =>
        obtain ⟨g1, g2, g3, g4⟩ := hcut
        have H14 := Lib.hid (And.intro (g1) (And.intro (g2) (And.intro (g3) (g4))))
        clear g1 g2 g3 g4 H13 HPT HBD HCX HG7
        have hE6 : wE s6.sd = 0 → wE s.sd = 0 ∧ wV s.sd ≤ wV s6.sd := fun he => by
          have h1 := HCK.out
          rw [← HD6.out.1] at h1
          exact ch_worst HSD.out h1 he
        have HSX : Hid (∀ W, SmOk s6 W → Calls Try.prog 19 #[.agg #[.slice s3.a s3.cs.length s3.c, vi s3.least]] W fun e w' => ∃ s2 : Sm, e = .returned (smV s2) ∧ (∀ W2, newer w' W2 → Calls Try.prog 25 #[smV s2] W2 fun e w3 => ∃ (a : Int) (A : Option Addr) (n c : Nat), e = .returned (.tuple #[.agg #[vi a, .slice A n c], vi (wV s6.sd), vi (wE s6.sd)]) ∧ newer W2 w3) ∧ newer W w') := Lib.hid (fun W hW => by
          have h := slope_chain s6 _ W hW rfl (by rw [HD6.out.1]; exact HCK.out.ok)
          rw [HD6.out.2] at h
          exact h)
        have h0 := wE_is s.sd
        have h6 := wE_is s6.sd
        obtain ⟨e0, he0⟩ : ∃ e, e = wE s.sd := ⟨_, rfl⟩
        obtain ⟨v0, hv0⟩ : ∃ v, v = wV s.sd := ⟨_, rfl⟩
        obtain ⟨e1, he1⟩ : ∃ e, e = wE s6.sd := ⟨_, rfl⟩
        obtain ⟨v1, hv1⟩ : ∃ v, v = wV s6.sd := ⟨_, rfl⟩
        rw [← he0, ← hv0] at HSL
        rw [← he1, ← hv1] at HSX
        rw [← he0, ← hv0, ← he1, ← hv1] at hE6
        rw [← he0] at h0
        rw [← he1] at h6
        have HEC := Lib.hid (And.intro h0 (And.intro h6 hE6))
        clear he0 hv0 he1 hv1 h0 h6 hE6
        have x0 := H14.out.2.1.at 0 (v := .slice s.a s.cs.length s.c) rfl
        have x1 := H14.out.2.1.at 1 (v := vi s.least) rfl
        go_wp2_with fail
        refine (HSL.out _ H14.out.1).mono ?_
        rintro e w15 ⟨s4, rfl, hc4, hb⟩
        have HC4 := Lib.hid (hc4 _ (newer_refl _))
        clear hc4
        have H16 := Lib.hid (And.intro ((newer_trans H14.out.1 hb)) (And.intro ((H14.out.2.1.below hb H14.out.2.1.lt)) (And.intro ((H14.out.2.2.1.next hb)) ((H14.out.2.2.2.below hb H14.out.2.2.2.lt)))))
        clear hb H14 x0 x1
        go_wp2_with fail
        refine (HC4.out).mono ?_
        rintro e w17 ⟨a_, A_, n_, c_, rfl, hb⟩
        have H18 := Lib.hid (And.intro ((newer_trans H16.out.1 hb)) (And.intro ((H16.out.2.1.below hb H16.out.2.1.lt)) (And.intro ((H16.out.2.2.1.next hb)) ((H16.out.2.2.2.below hb H16.out.2.2.2.lt)))))
        clear hb HC4 H16
        have e6 := newer_allocH w17 (.cells #[vi a_, .slice A_ n_ c_] 39)
        have H19 := Lib.hid (And.intro ((newer_trans H18.out.1 e6)) (And.intro ((H18.out.2.1.below e6 H18.out.2.1.lt)) (And.intro ((H18.out.2.2.1.next e6)) ((H18.out.2.2.2.below e6 H18.out.2.2.2.lt)))))
        clear e6 H18
        have z0 := H19.out.2.2.2.at 0 (v := .slice s3.a s3.cs.length s3.c) rfl
        have z1 := H19.out.2.2.2.at 1 (v := vi s3.least) rfl
        go_wp2_with fail
        refine (HSX.out _ H19.out.2.2.1).mono ?_
        rintro e w20 ⟨s4, rfl, hc4, hb⟩
        have HC4 := Lib.hid (hc4 _ (newer_refl _))
        clear hc4
        have H21 := Lib.hid (And.intro ((newer_trans H19.out.1 hb)) (And.intro ((H19.out.2.1.below hb H19.out.2.1.lt)) (And.intro ((H19.out.2.2.1.next hb)) ((H19.out.2.2.2.below hb H19.out.2.2.2.lt)))))
        clear hb H19 z0 z1
        go_wp2_with fail
        refine (HC4.out).mono ?_
        rintro e w22 ⟨a_, A_, n_, c_, rfl, hb⟩
        have H23 := Lib.hid (And.intro ((newer_trans H21.out.1 hb)) (And.intro ((H21.out.2.1.below hb H21.out.2.1.lt)) (And.intro ((H21.out.2.2.1.next hb)) ((H21.out.2.2.2.below hb H21.out.2.2.2.lt)))))
        clear hb HC4 H21
        have e6 := newer_allocH w22 (.cells #[vi a_, .slice A_ n_ c_] 39)
        have H24 := Lib.hid (And.intro ((newer_trans H23.out.1 e6)) (And.intro ((H23.out.2.1.below e6 H23.out.2.1.lt)) (And.intro ((H23.out.2.2.1.next e6)) ((H23.out.2.2.2.below e6 H23.out.2.2.2.lt)))))
        clear e6 H23
        go_upto_region 19 with fail
        refine genQ (fun X => newer w X ∧ Whole X w.heap.size 24 (smC s) ∧ SmOk s6 X ∧ Whole X xq 24 (smC s3)) ⟨H24.out.1, H24.out.2.1, H24.out.2.2.1, H24.out.2.2.2⟩ ?_
        rintro w25 ⟨g0_, g1_, g2_, g3_⟩
        have H26 := Lib.hid (And.intro (g0_) (And.intro (g1_) (And.intro (g2_) (g3_))))
        clear g0_ g1_ g2_ g3_ H24
        go_cut [185] from 155 to 185 (fun s185 wx => s185 = .bool false ∧ wx = w25)
        case first =>
          obtain ⟨h0, h6, hE6⟩ := HEC.out
          clear HSL HSX
          rcases h6 with rfl | rfl
          · obtain ⟨rfl, hvv⟩ := hE6 rfl
            clear h0
            go_wp2_with fail
            go_meet
            exact ⟨by rw [decide_eq_false (show ¬ v1 < v0 by omega)], rfl⟩
          · clear hE6
            rcases h0 with rfl | rfl
            · go_wp2_with fail
              go_meet
              exact ⟨rfl, rfl⟩
            · go_wp2_with fail
              go_meet
              exact ⟨rfl, rfl⟩
        case rest =>
          obtain ⟨rfl, rfl⟩ := hcut
          clear HSL HSX HEC
          by_cases hj2 : j = 2
          · subst hj2
            go_wp2_with fail
            refine (wakes_any _).mono ?_
            rintro e w27 ⟨rfl, hb⟩
            have H28 := Lib.hid (And.intro ((newer_trans H26.out.1 hb)) (And.intro ((H26.out.2.1.below hb H26.out.2.1.lt)) (And.intro ((H26.out.2.2.1.next hb)) ((H26.out.2.2.2.below hb H26.out.2.2.2.lt)))))
            clear hb H26
            go_wp2_with fail
            go_ret
            exact ⟨rfl, H28.out.1⟩
          · have hj3 : ((j : Int) == 2) = false := by simp; omega
            have hj4 : ¬ ((j : Int) = 2) := by omega
            have x0 := H26.out.2.1.at 0 (v := .slice s.a s.cs.length s.c) rfl
            have x1 := H26.out.2.1.at 1 (v := vi s.least) rfl
            go_wp2_with fail
            refine (HPA.out _ H26.out.1).mono ?_
            rintro e w29 ⟨u, rfl, huo, ⟨k0, l, hf, hl, hsf⟩, hb⟩
            have H30 := Lib.hid (And.intro ((newer_trans H26.out.1 hb)) (And.intro ((H26.out.2.1.below hb H26.out.2.1.lt)) (And.intro ((H26.out.2.2.1.next hb)) (And.intro ((H26.out.2.2.2.below hb H26.out.2.2.2.lt)) (huo)))))
            clear hb HPA H26 x0 x1
            have hul : u.beds.length ≤ 1000 := by have h1 := hsf.2.1; rw [hl, List.length_map]; omega
            have HUL := Lib.hid hul
            obtain ⟨_, e5, r0, r1, hk⟩ := surf_known HSD.out hf hl hsf
            have hsp := ch_span (s := s) (s' := s6) HSD.out (by rw [HD6.out.1]; exact HCK.out) hj2 hf hl hsf
            obtain ⟨p0, hp0⟩ : ∃ p, p = spanP s6.sd u.frm u.beds false := ⟨_, rfl⟩
            obtain ⟨p1, hp1⟩ : ∃ p, p = spanP s6.sd u.frm u.beds true := ⟨_, rfl⟩
            rw [hk.sp.1, hk.sp.2.1, hk.sp.2.2, ← hp0, ← hp1] at hsp
            have HK := Lib.hid (And.intro hk.sp (And.intro hsp.1 (And.intro hp0 hp1)))
            obtain ⟨_, hsp1, hsp2⟩ := hsp
            have HUD := Lib.hid (And.intro hf hl)
            clear hk hp0 hp1 hul hf hl hsf
            go_wp2_with fail
            refine (lawSurface u _ H30.out.2.2.2.2 HUL.out).mono ?_
            rintro e w31 ⟨u2, rfl, hf2, hl2, hu2, hb⟩
            have H32 := Lib.hid (And.intro ((newer_trans H30.out.1 hb)) (And.intro ((H30.out.2.1.below hb H30.out.2.1.lt)) (And.intro ((H30.out.2.2.1.next hb)) (And.intro ((H30.out.2.2.2.1.below hb H30.out.2.2.2.1.lt)) (hu2)))))
            clear hb hu2 H30
            have e6 := newer_allocH w31 (.cells (suC u2) 39)
            have hub := Whole.made w31 39 (suC u2)
            have H33 := Lib.hid (And.intro ((newer_trans H32.out.1 e6)) (And.intro ((H32.out.2.1.below e6 H32.out.2.1.lt)) (And.intro ((H32.out.2.2.1.next e6)) (And.intro ((H32.out.2.2.2.1.below e6 H32.out.2.2.2.1.lt)) (And.intro ((H32.out.2.2.2.2.next e6)) (hub))))))
            clear e6 hub H32
            have HSP : Hid (∀ (s2 : Sm) W, s2.sd = s.sd → SmOk s2 W → SuOk u2 W → Calls Try.prog 18 #[smV s2, suV u2] W fun e w' => e = .returned (.tuple #[.agg #[vi r0, vi r1], vi e5]) ∧ newer W w') := Lib.hid (fun s2 W h1 h2 h5 => by
              have h6 := span_any s2 u2 W h2 (few_sd h1 HFW.out) h5 (by rw [hl2]; exact HUL.out)
              rw [h1, hf2, hl2, spanV_is, HK.out.1.1, HK.out.1.2.1, HK.out.1.2.2] at h6
              exact h6)
            have HSQ : Hid (∀ (s2 : Sm) W, s2.sd = s6.sd → SmOk s2 W → SuOk u2 W → Calls Try.prog 18 #[smV s2, suV u2] W fun e w' => e = .returned (.tuple #[.agg #[vi p0, vi p1], vi e5]) ∧ newer W w') := Lib.hid (fun s2 W h1 h2 h5 => by
              have h6 := span_any s2 u2 W h2 (few_of (by rw [h1, HD6.out.1]; exact HCK.out.ok)) h5 (by rw [hl2]; exact HUL.out)
              rw [h1, hf2, hl2, spanV_is, HK.out.2.1, ← HK.out.2.2.1, ← HK.out.2.2.2] at h6
              exact h6)
            have HS19 : Hid (∀ W, newer w W → Calls Try.prog 19 #[smV s] W fun e w' => ∃ s2 : Sm, e = .returned (smV s2) ∧ s2.sd = s.sd ∧ SmOk s2 w' ∧ newer W w') := Lib.hid (fun W hW => lawSlope s W (HOK.out.1.next hW) HFW.out)
            have HX19 : Hid (∀ W, SmOk s6 W → Calls Try.prog 19 #[.agg #[.slice s3.a s3.cs.length s3.c, vi s3.least]] W fun e w' => ∃ s2 : Sm, e = .returned (smV s2) ∧ s2.sd = s6.sd ∧ SmOk s2 w' ∧ newer W w') := Lib.hid (fun W hW => by
              have h := lawSlope s6 W hW (few_of (by rw [HD6.out.1]; exact HCK.out.ok))
              rw [HD6.out.2] at h
              exact h)
            clear hf2 hl2
            have HUK := Lib.hid H33.out.2.2.2.2.1
            have HNK := Lib.hid H33.out.1
            have HSK := Lib.hid H33.out.2.2.1
            have x0 := H33.out.2.1.at 0 (v := .slice s.a s.cs.length s.c) rfl
            have x1 := H33.out.2.1.at 1 (v := vi s.least) rfl
            have u0 := H33.out.2.2.2.2.2.at 0 (v := vi u2.frm) rfl
            have u1 := H33.out.2.2.2.2.2.at 1 (v := .slice u2.a u2.beds.length u2.c) rfl
            go_upto_region 24 with fail
            refine wp_words (by kernel_rfl) (region_late 9 8 (by kernel_rfl) (by kernel_rfl) (by decide) (by kernel_rfl) (fun W => Below (w31.alloc (.cells (suC u2) 39)).heap.size (w31.alloc (.cells (suC u2) 39)) W) (pickB [vIs (smV s), vSlo s.sd, vIs (suV u2), vIs (.tuple #[.agg #[vi r0, vi r1], vi e5]), vIs (.tuple #[.agg #[vi r0, vi r1], vi e5]), vIs (.agg #[vi r0, vi r1]), vIs (vi e5), vNew (w31.alloc (.cells (suC u2) 39)).heap.size 31 #[vi 0, vi 0], (fun _ _ => True)] [(fun _ _ => True), (fun _ _ => True), (fun _ _ => True), (fun _ _ => True), vIs (.tuple #[.agg #[vi r0, vi r1], vi e5]), (fun _ _ => True), vIs (vi e5), vNew (w31.alloc (.cells (suC u2) 39)).heap.size 31 #[vi r0, vi r1], (fun _ _ => True)]) (pickB_stable ⟨vIs_st, vSlo_st, vIs_st, vIs_st, vIs_st, vIs_st, vIs_st, vNew_st, (fun _ _ _ h _ => h), trivial⟩ ⟨(fun _ _ _ h _ => h), (fun _ _ _ h _ => h), (fun _ _ _ h _ => h), (fun _ _ _ h _ => h), vIs_st, (fun _ _ _ h _ => h), vIs_st, vNew_st, (fun _ _ _ h _ => h), trivial⟩) (Below.refl _ (w31.alloc (.cells (suC u2) 39))).drew ?_ ?_)
            · refine ⟨?_, ?_, ?_, ?_, ?_, ?_, ?_, ?_, ?_, trivial⟩
              · intro a W hG hO hp
                have h6 := hO.slot 6 (by kernel_rfl)
                have c0 := keep_cell x0 hG
                have c1 := keep_cell x1 hG
                refine wp_yields (v := smV s) ?_ ⟨_, rfl, rfl, Below.refl _ _, hG⟩
                simp [slotOf] at h6
                simp [execOp, go_sem, h6, c0, c1]
              · intro a W hG hO hp
                have h195 : slotOf a 195 = smV s := hp.1
                refine wp_enters (f := 19) (args := #[smV s]) ?_ ((HS19.out W (newer_trans HNK.out hG)).mono ?_)
                · simp [slotOf] at h195
                  simp [go_sem, h195]
                · rintro e w' ⟨s2, rfl, h1, h2, hb⟩
                  exact ⟨_, rfl, _, rfl, ⟨s2, rfl, h1, h2⟩, hb, below_next hG hb⟩
              · intro a W hG hO hp
                have h23 := hO.slot 23 (by kernel_rfl)
                have c0 := keep_cell u0 hG
                have c1 := keep_cell u1 hG
                refine wp_yields (v := suV u2) ?_ ⟨_, rfl, rfl, Below.refl _ _, hG⟩
                simp [slotOf] at h23
                simp [execOp, go_sem, h23, c0, c1]
              · intro a W hG hO hp
                have h196 := hp.1
                have h197 : slotOf a 197 = suV u2 := hp.2.1
                obtain ⟨s2, h196, hd2, hs2⟩ := h196
                have hsp := HSP.out s2 W hd2 hs2 (HUK.out.next hG)
                refine wp_enters (f := 18) (args := #[smV s2, suV u2]) ?_ (hsp.mono ?_)
                · simp [slotOf] at h196 h197
                  simp [go_sem, h196, h197]
                · rintro e w' ⟨rfl, hb⟩
                  exact ⟨_, rfl, _, rfl, rfl, hb, below_next hG hb⟩
              · intro a W hG hO hp
                have h198 : slotOf a 198 = .tuple #[.agg #[vi r0, vi r1], vi e5] := hp.1
                refine wp_yields (v := .tuple #[.agg #[vi r0, vi r1], vi e5]) ?_ ⟨_, rfl, rfl, Below.refl _ _, hG⟩
                simp [slotOf] at h198
                simp [execOp, go_sem, h198]
              · intro a W hG hO hp
                have h194 : slotOf a 194 = .tuple #[.agg #[vi r0, vi r1], vi e5] := hp.1
                refine wp_yields (v := .agg #[vi r0, vi r1]) ?_ ⟨_, rfl, rfl, Below.refl _ _, hG⟩
                simp [slotOf] at h194
                simp [execOp, go_sem, h194]
              · intro b a W hG hO hp
                have h194 : slotOf a 194 = .tuple #[.agg #[vi r0, vi r1], vi e5] := by cases b <;> exact hp.1
                refine wp_yields (v := vi e5) ?_ ⟨_, rfl, (by cases b <;> rfl), Below.refl _ _, hG⟩
                simp [slotOf] at h194
                simp [execOp, go_sem, h194]
              · intro a W hG hO hp
                refine wp_makes (v := .pointer (some ⟨W.heap.size, 0, none⟩)) (W' := W.alloc (.cells #[vi 0, vi 0] 31)) ?_ ⟨_, rfl, ⟨_, rfl, hG.size, Whole.made _ _ _⟩, newer_allocH _ _, below_next hG (newer_allocH _ _)⟩
                skip
                simp [execOp, go_sem]
              · intro a W hG hO hp
                have h24 := hp.1
                have h199 : slotOf a 199 = .agg #[vi r0, vi r1] := hp.2.1
                obtain ⟨fb, h24, hfb, hwf⟩ := h24
                have b0 := hwf.at 0 rfl
                have b1 := hwf.at 1 rfl
                have f0 := hwf.free 0
                have f1 := hwf.free 1
                have hq := h24
                simp [slotOf] at h24 h199
                refine wp_storesE (W' := (W.setCell ⟨fb, 0, none⟩ (vi r0)).setCell ⟨fb, 1, none⟩ (vi r1)) (by simp [execOp, go_sem, h24, h199, b0, b1, f0, f1]) ⟨rfl, (hG.setCell (p := ⟨fb, 0, none⟩) hfb _).setCell (p := ⟨fb, 1, none⟩) hfb _, ?_⟩
                intro j oj d hj hoj hd hD
                match j, hoj, hD with
                | 0, _, _ => trivial
                | 1, _, _ => trivial
                | 2, _, _ => trivial
                | 3, _, _ => trivial
                | 4, _, hD =>
                  exact hD
                | 5, _, _ => trivial
                | 6, _, hD =>
                  exact hD
                | 7, hoj, _ =>
                  obtain rfl := Option.some.inj hoj
                  obtain rfl := Option.some.inj hd
                  exact ⟨fb, hq, hfb, (hwf.set 0 _).set 1 _⟩
                | 8, _, _ => trivial
                | (_ + 9), _, _ => omega
            · intro wy24 hG
              rintro _ - _ - _ - _ - _ - _ - _ rfl _ ⟨fa, rfl, hfb, hwf⟩
              change wpList _ _ _ _ _ _
              simp only [Act.put, List.setIfInBounds_toArray, List.set_cons_zero, List.set_cons_succ, List.drop_succ_cons, List.drop_zero]
              have H34 := Lib.hid (And.intro ((newer_trans H33.out.1 hG)) (And.intro ((H33.out.2.1.below hG H33.out.2.1.lt)) (And.intro ((H33.out.2.2.1.next hG)) (And.intro ((H33.out.2.2.2.1.below hG H33.out.2.2.2.1.lt)) (And.intro ((H33.out.2.2.2.2.1.next hG)) (And.intro ((H33.out.2.2.2.2.2.below hG H33.out.2.2.2.2.2.lt)) (hwf)))))))
              clear hG hfb hwf HUK HNK HSK HSP H33 x0 x1 u0 u1
              have HUK := Lib.hid H34.out.2.2.2.2.1
              have HNK := Lib.hid H34.out.1
              have HSK := Lib.hid H34.out.2.2.1
              have z0 := H34.out.2.2.2.1.at 0 (v := .slice s3.a s3.cs.length s3.c) rfl
              have z1 := H34.out.2.2.2.1.at 1 (v := vi s3.least) rfl
              have u0 := H34.out.2.2.2.2.2.1.at 0 (v := vi u2.frm) rfl
              have u1 := H34.out.2.2.2.2.2.1.at 1 (v := .slice u2.a u2.beds.length u2.c) rfl
              go_upto_region 25 with fail
              refine wp_words (by kernel_rfl) (region_late 9 8 (by kernel_rfl) (by kernel_rfl) (by decide) (by kernel_rfl) (fun W => Below wy24.heap.size wy24 W) (pickB [vIs (.agg #[.slice s3.a s3.cs.length s3.c, vi s3.least]), vSlo s6.sd, vIs (suV u2), vIs (.tuple #[.agg #[vi p0, vi p1], vi e5]), vIs (.tuple #[.agg #[vi p0, vi p1], vi e5]), vIs (.agg #[vi p0, vi p1]), vIs (vi e5), vNew wy24.heap.size 31 #[vi 0, vi 0], (fun _ _ => True)] [(fun _ _ => True), (fun _ _ => True), (fun _ _ => True), (fun _ _ => True), vIs (.tuple #[.agg #[vi p0, vi p1], vi e5]), (fun _ _ => True), vIs (vi e5), vNew wy24.heap.size 31 #[vi p0, vi p1], (fun _ _ => True)]) (pickB_stable ⟨vIs_st, vSlo_st, vIs_st, vIs_st, vIs_st, vIs_st, vIs_st, vNew_st, (fun _ _ _ h _ => h), trivial⟩ ⟨(fun _ _ _ h _ => h), (fun _ _ _ h _ => h), (fun _ _ _ h _ => h), (fun _ _ _ h _ => h), vIs_st, (fun _ _ _ h _ => h), vIs_st, vNew_st, (fun _ _ _ h _ => h), trivial⟩) (Below.refl _ wy24).drew ?_ ?_)
              · refine ⟨?_, ?_, ?_, ?_, ?_, ?_, ?_, ?_, ?_, trivial⟩
                · intro a W hG hO hp
                  have h13 := hO.slot 13 (by kernel_rfl)
                  have c0 := keep_cell z0 hG
                  have c1 := keep_cell z1 hG
                  refine wp_yields (v := .agg #[.slice s3.a s3.cs.length s3.c, vi s3.least]) ?_ ⟨_, rfl, rfl, Below.refl _ _, hG⟩
                  simp [slotOf] at h13
                  simp [execOp, go_sem, h13, c0, c1]
                · intro a W hG hO hp
                  have h202 : slotOf a 202 = .agg #[.slice s3.a s3.cs.length s3.c, vi s3.least] := hp.1
                  refine wp_enters (f := 19) (args := #[.agg #[.slice s3.a s3.cs.length s3.c, vi s3.least]]) ?_ ((HX19.out W (HSK.out.next hG)).mono ?_)
                  · simp [slotOf] at h202
                    simp [go_sem, h202]
                  · rintro e w' ⟨s2, rfl, h1, h2, hb⟩
                    exact ⟨_, rfl, _, rfl, ⟨s2, rfl, h1, h2⟩, hb, below_next hG hb⟩
                · intro a W hG hO hp
                  have h23 := hO.slot 23 (by kernel_rfl)
                  have c0 := keep_cell u0 hG
                  have c1 := keep_cell u1 hG
                  refine wp_yields (v := suV u2) ?_ ⟨_, rfl, rfl, Below.refl _ _, hG⟩
                  simp [slotOf] at h23
                  simp [execOp, go_sem, h23, c0, c1]
                · intro a W hG hO hp
                  have h203 := hp.1
                  have h204 : slotOf a 204 = suV u2 := hp.2.1
                  obtain ⟨s2, h203, hd2, hs2⟩ := h203
                  have hsp := HSQ.out s2 W hd2 hs2 (HUK.out.next hG)
                  refine wp_enters (f := 18) (args := #[smV s2, suV u2]) ?_ (hsp.mono ?_)
                  · simp [slotOf] at h203 h204
                    simp [go_sem, h203, h204]
                  · rintro e w' ⟨rfl, hb⟩
                    exact ⟨_, rfl, _, rfl, rfl, hb, below_next hG hb⟩
                · intro a W hG hO hp
                  have h205 : slotOf a 205 = .tuple #[.agg #[vi p0, vi p1], vi e5] := hp.1
                  refine wp_yields (v := .tuple #[.agg #[vi p0, vi p1], vi e5]) ?_ ⟨_, rfl, rfl, Below.refl _ _, hG⟩
                  simp [slotOf] at h205
                  simp [execOp, go_sem, h205]
                · intro a W hG hO hp
                  have h201 : slotOf a 201 = .tuple #[.agg #[vi p0, vi p1], vi e5] := hp.1
                  refine wp_yields (v := .agg #[vi p0, vi p1]) ?_ ⟨_, rfl, rfl, Below.refl _ _, hG⟩
                  simp [slotOf] at h201
                  simp [execOp, go_sem, h201]
                · intro b a W hG hO hp
                  have h201 : slotOf a 201 = .tuple #[.agg #[vi p0, vi p1], vi e5] := by cases b <;> exact hp.1
                  refine wp_yields (v := vi e5) ?_ ⟨_, rfl, (by cases b <;> rfl), Below.refl _ _, hG⟩
                  simp [slotOf] at h201
                  simp [execOp, go_sem, h201]
                · intro a W hG hO hp
                  refine wp_makes (v := .pointer (some ⟨W.heap.size, 0, none⟩)) (W' := W.alloc (.cells #[vi 0, vi 0] 31)) ?_ ⟨_, rfl, ⟨_, rfl, hG.size, Whole.made _ _ _⟩, newer_allocH _ _, below_next hG (newer_allocH _ _)⟩
                  skip
                  simp [execOp, go_sem]
                · intro a W hG hO hp
                  have h26 := hp.1
                  have h206 : slotOf a 206 = .agg #[vi p0, vi p1] := hp.2.1
                  obtain ⟨fb, h26, hfb, hwf⟩ := h26
                  have b0 := hwf.at 0 rfl
                  have b1 := hwf.at 1 rfl
                  have f0 := hwf.free 0
                  have f1 := hwf.free 1
                  have hq := h26
                  simp [slotOf] at h26 h206
                  refine wp_storesE (W' := (W.setCell ⟨fb, 0, none⟩ (vi p0)).setCell ⟨fb, 1, none⟩ (vi p1)) (by simp [execOp, go_sem, h26, h206, b0, b1, f0, f1]) ⟨rfl, (hG.setCell (p := ⟨fb, 0, none⟩) hfb _).setCell (p := ⟨fb, 1, none⟩) hfb _, ?_⟩
                  intro j oj d hj hoj hd hD
                  match j, hoj, hD with
                  | 0, _, _ => trivial
                  | 1, _, _ => trivial
                  | 2, _, _ => trivial
                  | 3, _, _ => trivial
                  | 4, _, hD =>
                    exact hD
                  | 5, _, _ => trivial
                  | 6, _, hD =>
                    exact hD
                  | 7, hoj, _ =>
                    obtain rfl := Option.some.inj hoj
                    obtain rfl := Option.some.inj hd
                    exact ⟨fb, hq, hfb, (hwf.set 0 _).set 1 _⟩
                  | 8, _, _ => trivial
                  | (_ + 9), _, _ => omega
              · intro wy25 hG
                rintro _ - _ - _ - _ - _ - _ - _ rfl _ ⟨fc, rfl, hfb, hwf⟩
                change wpList _ _ _ _ _ _
                simp only [Act.put, List.setIfInBounds_toArray, List.set_cons_zero, List.set_cons_succ, List.drop_succ_cons, List.drop_zero]
                have H35 := Lib.hid (And.intro ((newer_trans H34.out.1 hG)) (And.intro ((H34.out.2.1.below hG H34.out.2.1.lt)) (And.intro ((H34.out.2.2.1.next hG)) (And.intro ((H34.out.2.2.2.1.below hG H34.out.2.2.2.1.lt)) (And.intro ((H34.out.2.2.2.2.1.next hG)) (And.intro ((H34.out.2.2.2.2.2.1.below hG H34.out.2.2.2.2.2.1.lt)) (And.intro ((H34.out.2.2.2.2.2.2.below hG H34.out.2.2.2.2.2.2.lt)) (hwf))))))))
                clear hG hfb hwf HUK HNK HSK HSQ H34 z0 z1 u0 u1
                have q0 := H35.out.2.2.2.2.2.2.1.at 0 (v := vi r0) rfl
                have q1 := H35.out.2.2.2.2.2.2.1.at 1 (v := vi r1) rfl
                have y0 := H35.out.2.2.2.2.2.2.2.at 0 (v := vi p0) rfl
                have y1 := H35.out.2.2.2.2.2.2.2.at 1 (v := vi p1) rfl
                go_wp2_with fail
                refine (wakes_any _).mono ?_
                rintro e w36 ⟨rfl, hb⟩
                have H37 := Lib.hid (And.intro ((newer_trans H35.out.1 hb)) (And.intro ((H35.out.2.1.below hb H35.out.2.1.lt)) (And.intro ((H35.out.2.2.1.next hb)) (And.intro ((H35.out.2.2.2.1.below hb H35.out.2.2.2.1.lt)) (And.intro ((H35.out.2.2.2.2.1.next hb)) (And.intro ((H35.out.2.2.2.2.2.1.below hb H35.out.2.2.2.2.2.1.lt)) (And.intro ((H35.out.2.2.2.2.2.2.1.below hb H35.out.2.2.2.2.2.2.1.lt)) ((H35.out.2.2.2.2.2.2.2.below hb H35.out.2.2.2.2.2.2.2.lt)))))))))
                clear hb H35 q0 q1 y0 y1
                go_wp2_with fail
                go_ret
                exact ⟨rfl, H37.out.1⟩
end
set_option maxRecDepth 100000 in
set_option maxHeartbeats 1000000 in
theorem slopeStronger_lifted (os : Os) (started : os.Started) (H : Type) (enc : TypeId × Value → H) :
    ReturnsInHanded {} Try.checked os 8 .any (Rows.slopeStrongerSpec.pre6 enc Try.prog Try.f8 Rows.slopeStrongerRow.domain false) (Rows.slopeStrongerSpec.post enc Try.prog Try.f8 false true false false) := by
  refine returnsInHanded_of_change (C := Try.checked) Try.own started (by kernel_rfl) Try.func8
    (ChangeSpec.witness6 (enc := enc) (C := Try.checked) false ⟨#[], #[.agg #[.slice none 0 0, .int .i64 0], .slice none 0 0, .int .u8 0, .int .u8 0, .int .u8 0, .int .u16 0], []⟩ 8 (by kernel_rfl) (by kernel_rfl) (by kernel_rfl) (by kernel_rfl)) ?_
  intro W base args ds gs before hval0 hW hcnd _
  have hval : ∀ (j : Nat) t v, Try.f8.params[j]? = some t → args[j]? = some v → Value.okWide Try.prog W .any base t v := hval0
  have hW' := hW
  obtain ⟨p, q, hA0, hV, rfl, hfz, hnd⟩ := hW
  have hA : DataW.TrodAll enc Try.prog W 0 (fun _ => true) true Try.f8.params.toList args.toList ds p := hA0
  rw [Try.params8] at hA hval
  obtain ⟨v0, vs0, d0, ds0, p0, q0, hargs, rfl, rfl, h0, r0⟩ := trodAll_cons hA
  obtain ⟨v1, vs1, d1, ds1, p1, q1, rfl, rfl, rfl, h1, r1⟩ := trodAll_cons r0
  obtain ⟨v2, vs2, d2, ds2, p2, q2, rfl, rfl, rfl, h2, r2⟩ := trodAll_cons r1
  obtain ⟨v3, vs3, d3, ds3, p3, q3, rfl, rfl, rfl, h3, r3⟩ := trodAll_cons r2
  obtain ⟨v4, vs4, d4, ds4, p4, q4, rfl, rfl, rfl, h4, r4⟩ := trodAll_cons r3
  obtain ⟨v5, vs5, d5, ds5, p5, q5, rfl, rfl, rfl, h5, r5⟩ := trodAll_cons r4
  obtain ⟨rfl, rfl, rfl⟩ := trodAll_nil r5
  obtain rfl : args = #[v0, v1, v2, v3, v4, v5] := by cases args; simp_all
  obtain ⟨rfl, rfl⟩ := trodVars_none hV
  obtain ⟨c0, rfl, hs0⟩ := okWide_struct Try.underlying24 (hval 0 24 v0 rfl rfl)
  have k0 := h0
  have lt0 : ∀ x ∈ p0, x.block < W.heap.size := by obtain ⟨m, hm⟩ := k0; exact DataW.trod_lt m _ _ _ hm
  obtain ⟨g0, e0, hrow0⟩ : ∃ p : Sm, c0.toList = (smC p).toList ∧ SmOk p W := by
    obtain ⟨fuel, hf⟩ := h0
    exact slope_open hf
  obtain rfl : c0 = smC g0 := Array.toList_inj.1 e0
  obtain ⟨a1, len1, cap1, rfl⟩ := okWide_slice Try.underlying65 (hval 1 65 v1 rfl rfl)
  have k1 := h1
  have lt1 : ∀ x ∈ p1, x.block < W.heap.size := by obtain ⟨m, hm⟩ := k1; exact DataW.trod_lt m _ _ _ hm
  obtain ⟨D1, l1, dp1, e1, hl1, hrow1⟩ : ∃ (D : Option Addr) (l : List Byt) (dp : Nat), (Value.slice a1 len1 cap1).cells.toList = [.slice D l.length dp] ∧ l.length ≤ maxLen ∧ Row byL 1 W W.heap.size D l := by
    obtain ⟨fuel, hf⟩ := h1
    exact bytes_open hf
  simp [Value.cells] at e1
  obtain ⟨rfl, rfl, rfl⟩ := e1
  obtain ⟨a2, rfl, rfl, rfl, w2⟩ := open_int Try.underlying5 (hval 2 5 v2 rfl rfl) h2
  obtain ⟨a3, rfl, rfl, rfl, w3⟩ := open_int Try.underlying5 (hval 3 5 v3 rfl rfl) h3
  obtain ⟨a4, rfl, rfl, rfl, w4⟩ := open_int Try.underlying5 (hval 4 5 v4 rfl rfl) h4
  obtain ⟨a5, rfl, rfl, rfl, w5⟩ := open_int Try.underlying62 (hval 5 62 v5 rfl rfl) h5
  have hb2 := bounds_u8 w2
  have hb3 := bounds_u8 w3
  have hb4 := bounds_u8 w4
  have hb5 := bounds_u16 w5
  clear hA0 hval0
  refine (slopeStronger_walk g0 l1 a1 cap1 a2 a3 a4 a5 W hb2.1 hb2.2 hb3.1 hb3.2 hb4.1 hb4.2 hb5.1 hb5.2 hrow0 hrow1).mono fun e W' ⟨he, bel⟩ => ?_
  subst he
  exact ⟨_, rfl, _, _, _, [], _, [], hW', trodAll_mk1 (shut_bool Try.underlying4 _), (trodAll_cons_mk (Below.trod Try.laidOut (by kernel_rfl) (of_decide_eq_true (by kernel_rfl)) k0 bel lt0) (trodAll_cons_mk (Below.trod Try.laidOut (by kernel_rfl) (of_decide_eq_true (by kernel_rfl)) k1 bel lt1) (trodAll_cons_mk (shut_int Try.underlying5 w2) (trodAll_cons_mk (shut_int Try.underlying5 w3) (trodAll_cons_mk (shut_int Try.underlying5 w4) (trodAll_cons_mk (shut_int Try.underlying62 w5) trodAll_mk0)))))), rfl, bel.frame _, fun h => by cases h⟩

theorem slopeStronger_holds : Rows.SlopeStrongerSaid :=
  OpenClaim.holds_of_wide 8 Try.f8 rfl rfl rfl rfl rfl rfl rfl ⟨rfl, rfl, rfl, rfl, rfl⟩ rfl rfl rfl rfl rfl (by kernel_rfl) Try.func8 (by kernel_rfl)
    (of_decide_eq_true (by kernel_rfl)) (by unfold Func.isWrapper; first | (rw [if_pos (by decide +kernel)]; kernel_rfl) | (rw [if_neg (by decide +kernel)]; exact ⟨rfl, rfl⟩))
    (fun os started H enc _ => slopeStronger_lifted os started H enc)
#print axioms slopeStronger_holds

end Go.Proofs.Ytkenokpobbichaa
