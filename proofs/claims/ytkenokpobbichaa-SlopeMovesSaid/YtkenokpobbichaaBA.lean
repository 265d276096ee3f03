/- The columns that move, by the reference. -/
import Derived.Test.YtkenokpobbichaaAU
import Derived.Test.YtkenokpobbichaaAI
namespace Go.Proofs.Ytkenokpobbichaa
open Go.RowKit Go.Shelf Go.Deep

/-- The columns that move, by the reference. -/
def refMoves (s : Sd) (all : List (Nat × List Nat)) (F : Int) (sure : Bool) : List Nat := (List.range s.cols.length).filter fun x => all.any (refMv s F sure x)
theorem any_step {p : Nat × List Nat → Bool} {all : List (Nat × List Nat)} {i : Nat} {u : Nat × List Nat} (h : all[i]? = some u) : (all.take (i + 1)).any p = ((all.take i).any p || p u) := by
  rw [List.take_add_one, h, List.any_append]
  simp
theorem mv_skip {s : Sd} {F : Int} {sure : Bool} {x : Nat} {u : Nat × List Nat} (h : refLo s u < 0) : refMv s F sure x u = false := by
  unfold refMv
  rw [decide_eq_true h]
  rfl
theorem mv_out {s : Sd} {F : Int} {sure : Bool} {x k n : Nat} {u : Nat × List Nat} (hk : u.1 = k) (hn : u.2.length = n) (h : inB x k ((k : Int) + n - 1) = false) : refMv s F sure x u = false := by
  unfold refMv
  rw [hk, hn]
  by_cases h1 : k ≤ x ∧ x < k + n
  · rw [show inB x k ((k : Int) + n - 1) = true by simp only [inB, Bool.and_eq_true, decide_eq_true_eq]; omega] at h
    cases h
  · rw [show (decide (k ≤ x) && decide (x < k + n)) = false by
      rw [Bool.eq_false_iff]
      intro h2
      rw [Bool.and_eq_true, decide_eq_true_eq, decide_eq_true_eq] at h2
      exact h1 h2]
    simp
theorem mv_in {s : Sd} {F : Int} {sure : Bool} {x k n : Nat} {u : Nat × List Nat} (hk : u.1 = k) (hn : u.2.length = n) (h0 : ¬ refLo s u < 0) (h : inB x k ((k : Int) + n - 1) = true) : refMv s F sure x u = decide (refE (bedsL s.cols u.1 u.2) sure < F) := by
  unfold refMv
  rw [decide_eq_false h0, hk, hn]
  simp only [inB, Bool.and_eq_true, decide_eq_true_eq] at h
  rw [decide_eq_true (show k ≤ x by omega), decide_eq_true (show x < k + n by omega)]
  simp
theorem mv_app {w W W' : World} {cs : Array Value} (h : newer w W ∧ Whole W w.heap.size 24 cs) {A : Option Addr} {n c g2 c2 : Nat} {xs : List Value} (ho : W.ownsRow w.heap.size 3 1 (.slice A n c) n xs) (hw : (A = some ⟨g2, 0, none⟩ ∧ c2 = c ∧ W.grownBy W' (some g2)) ∨ (W.heap.size ≤ g2 ∧ W.grownBy W' none)) : newer w W' ∧ Whole W' w.heap.size 24 cs := by
  have hgr : W.grownBy W' (Value.slice A n c).ownBlock := by
    rcases hw with ⟨h1, _, h3⟩ | ⟨_, h3⟩
    · rw [h1]; exact h3
    · exact h3.but _
  refine ⟨?_, h.2.grown hgr (fun e => own_ne ho h.2 (by decide) e.symm)⟩
  rcases hw with ⟨h1, _, h3⟩ | ⟨_, h3⟩
  · exact Below.trans h.1 (below_of_grown h3 (own_ge ho g2 (by rw [h1]; rfl)) h.1.size)
  · exact newer_trans h.1 (below_grown h3 (fun q e => by cases e) (Nat.le_refl _))
set_option maxRecDepth 100000 in
set_option maxHeartbeats 1000000 in
theorem refMoves_any (s : Sm) (us : List Su) (A : Option Addr) (c : Nat) (all : List (Nat × List Nat)) (F : Int) (sure : Bool) (w : World) (hok : SmOk s w) (hs : SdOk s.sd) (hr : Row suL 2 w w.heap.size A us) (hsi : ∀ x ∈ us, SuOk x w) (he : us.map suK = all.map suP) (hsb : ∀ u ∈ all, SurfB s.sd.n s.cs.length s.sd.K u.1 u.2) (hlen : us.length ≤ 28298170368) :
    Calls Try.prog 37 #[smV s, .slice A us.length c, vi F, .bool sure] w fun e w' => ∃ B d, e = .returned (.slice B (refMoves s.sd all F sure).length d) ∧ w'.ownsRow w.heap.size 3 1 (.slice B (refMoves s.sd all F sure).length d) (refMoves s.sd all F sure).length ((refMoves s.sd all F sure).map fun x : Nat => vi x) ∧ newer w w' := by
  have hal : all.length = us.length := by have := congrArg List.length he; simpa using this.symm
  have hcl : s.cs.length ≤ 12 := by have h1 := hs.cols; rw [sd_len] at h1; omega
  have hnw : newer w (w.alloc (.cells (smC s) 24)) := newer_allocH _ _
  have hxb := Whole.made w 24 (smC s)
  have H0 := Lib.hid (And.intro hnw hxb)
  have x0 := hxb.at 0 (v := .slice s.a s.cs.length s.c) rfl
  have HOK := Lib.hid (And.intro hok (And.intro hr hsi))
  have HP := Lib.hid (And.intro hs (And.intro he hsb))
  have HAL := Lib.hid hal
  obtain ⟨ml, hml⟩ : ∃ ml, ml = refMoves s.sd all F sure := ⟨_, rfl⟩
  rw [← hml]
  have HML : Hid (ml = (List.range s.cs.length).filter fun x => all.any (refMv s.sd F sure x)) := Lib.hid (by rw [hml]; unfold refMoves; rw [sd_len])
  obtain ⟨i0, hi0, hz0, hz1, hz2⟩ := info_parts info_int
  have HI := Lib.hid (And.intro hi0 (And.intro hz0 (And.intro hz1 hz2)))
  clear hok hr hsi hs he hsb hal hnw hxb hml hi0 hz0 hz1 hz2
  go_enter Try.func37, Try.ntmps37
  go_wp2_with fail
  go_loopw [9, 10] (fun s9 s10 wr => ∃ (k : Nat) (l : List Nat) (B : Option Addr) (d : Nat), s10 = vi k ∧ k ≤ s.cs.length ∧ l = (List.range k).filter (fun x => all.any (refMv s.sd F sure x)) ∧ s9 = .slice B l.length d ∧ wr.ownsRow w.heap.size 3 1 (.slice B l.length d) l.length (l.map fun x : Nat => vi x) ∧ newer w wr ∧ Whole wr w.heap.size 24 (smC s)) (fun _ s10 _ => s.cs.length - (intOf s10).toNat)
  case atStart => exact ⟨0, [], none, 0, rfl, Nat.zero_le _, rfl, rfl, ⟨rfl, .inl ⟨rfl, rfl⟩⟩, H0.out.1, H0.out.2⟩
  case round =>
    obtain ⟨k, l, B, d, rfl, hk, hl, rfl, hown, hnw, hxb⟩ := hrel
    clear H0 x0
    have HL := Lib.hid hl
    have HJ := Lib.hid (And.intro hnw (And.intro hxb hown))
    have hlb : l.length ≤ k := by rw [hl]; have := List.length_filter_le (fun x => all.any (refMv s.sd F sure x)) (List.range k); simpa using this
    have x0 := hxb.at 0 (v := .slice s.a s.cs.length s.c) rfl
    clear hl hown hnw hxb
    obtain ⟨wo, rfl⟩ : ∃ wo : World, wo = wr := ⟨_, rfl⟩
    by_cases hlt : k < s.cs.length
    · have hki0 : (k : Int) < s.cs.length := by omega
      go_wp2_with fail
      go_loopw [11, 12] (fun s11 s12 wr => ∃ (i : Nat) (b : Bool), i ≤ us.length ∧ s11 = .bool b ∧ s12 = vi i ∧ b = (all.take i).any (refMv s.sd F sure k) ∧ newer w wr ∧ Whole wr w.heap.size 24 (smC s) ∧ wr.ownsRow w.heap.size 3 1 (.slice B l.length d) l.length (l.map fun x : Nat => vi x)) (fun _ s12 _ => us.length - (intOf s12).toNat)
      case atStart => exact ⟨0, false, Nat.zero_le _, rfl, rfl, rfl, HJ.out.1, HJ.out.2.1, HJ.out.2.2⟩
      case round =>
        obtain ⟨i, b, hi, rfl, rfl, hib, q2, q3, q4⟩ := hrel
        clear x0 HJ
        have HIB := Lib.hid hib
        by_cases hlt2 : i < us.length
        · have hki : (i : Int) < us.length := by omega
          obtain ⟨x, hx⟩ := get_of_lt hlt2
          obtain ⟨u, hu⟩ := get_of_lt (l := all) (k := i) (by rw [HAL.out]; exact hlt2)
          have hxu : suK x = suP u := by
            have h1 := congrArg (fun l => l[i]?) HP.out.2.1
            simpa [hx, hu] using h1
          obtain ⟨hf, hbl⟩ : x.frm = (u.1 : Int) ∧ x.beds = u.2.map fun y : Nat => (y : Int) := by simpa [suK, suP, suN] using hxu
          have hsf := HP.out.2.2 u (List.mem_of_getElem? hu)
          obtain ⟨ab, ao, eA, _, d0, d1⟩ := row_su2 ((HOK.out.2.1.below q2).more q2.size) hx
          obtain ⟨k0, hk0⟩ : ∃ k0, k0 = u.1 := ⟨_, rfl⟩
          obtain ⟨n0, hn0⟩ : ∃ n0, n0 = x.beds.length := ⟨_, rfl⟩
          obtain ⟨xa, hxa⟩ : ∃ xa, xa = x.a := ⟨_, rfl⟩
          obtain ⟨xc, hxc⟩ : ∃ xc, xc = x.c := ⟨_, rfl⟩
          have hnl : u.2.length = n0 := by rw [hn0, hbl, List.length_map]
          have hb12 : k0 + n0 ≤ 12 := by have h1 := hsf.2.1; rw [hnl] at h1; omega
          obtain ⟨g0, hg0⟩ : ∃ g, g = refLo s.sd u := ⟨_, rfl⟩
          obtain ⟨g1, hg1⟩ : ∃ g, g = refE (bedsL s.sd.cols u.1 u.2) true := ⟨_, rfl⟩
          have HRS : Hid (∀ W, newer w W → Calls Try.prog 22 #[smV s, .agg #[vi k0, .slice xa n0 xc]] W fun e w' => e = .returned (.agg #[vi g0, vi g1]) ∧ newer W w') := Lib.hid (fun W hW => by
            rw [hg0, hg1, hxa, hxc, hn0, hk0, ← hf]
            exact refSpan_any s x u.1 u.2 W (HOK.out.1.next hW) HP.out.1 ((HOK.out.2.2 x (List.mem_of_getElem? hx)).next hW) hf hbl hsf)
          have HU := Lib.hid (And.intro hu (And.intro hk0.symm (And.intro hnl (And.intro hg0 hg1))))
          rw [hf, ← hk0] at d0
          rw [← hn0, ← hxa, ← hxc] at d1
          have HQ := Lib.hid (And.intro hib (And.intro (And.intro q2 q2) (And.intro q3 q4)))
          have x0 := q3.at 0 (v := .slice s.a s.cs.length s.c) rfl
          have x1 := q3.at 1 (v := vi s.least) rfl
          have HEA := Lib.hid eA
          subst eA
          clear hib q2 q3 q4 hx hu hxu hf hbl hsf hk0 hn0 hxa hxc hnl hg0 hg1 HEA
          go_upto_region 9 with fail
          refine wp_words (by kernel_rfl) (region_told 12 (by kernel_rfl) (by kernel_rfl) (fun W => Below wr.heap.size wr W) newer (pickD [vIs (.slice (some ⟨ab, ao, none⟩) us.length c), vIs (vi i), vIs (.pointer (some ⟨ab, ao + i * 2, none⟩)), vIs (.agg #[vi k0, .slice xa n0 xc]), vIs (smV s), vIs (.slice (some ⟨ab, ao, none⟩) us.length c), vIs (vi i), vIs (.pointer (some ⟨ab, ao + i * 2, none⟩)), vIs (.agg #[vi k0, .slice xa n0 xc]), vIs (.agg #[vi g0, vi g1]), vNew wr.heap.size 27 #[vi 0, .slice none 0 0], vNew wr.heap.size 42 #[vi 0, vi 0]]) (fun h k => newer_trans h k) (pickD_stable _ ⟨vIs_st, vIs_st, vIs_st, vIs_st, vIs_st, vIs_st, vIs_st, vIs_st, vIs_st, vIs_st, vNew_st, vNew_st, trivial⟩) (Below.refl _ wr).drew (Below.refl _ _) ?_ ?_)
          · refine ⟨?_, ?_, ?_, ?_, ?_, ?_, ?_, ?_, ?_, ?_, ?_, ?_, trivial⟩
            · intro a W hG hR hO hp
              have h1 := hO.slot 1 (by kernel_rfl)
              refine wp_yields (v := .slice (some ⟨ab, ao, none⟩) us.length c) ?_ ⟨_, rfl, rfl, Below.refl _ _, hG⟩
              simp [slotOf] at h1
              simp [execOp, go_sem, h1]
            · intro a W hG hR hO hp
              have h12 := hO.slot 12 (by kernel_rfl)
              refine wp_yields (v := vi i) ?_ ⟨_, rfl, rfl, Below.refl _ _, hG⟩
              simp [slotOf] at h12
              simp [execOp, go_sem, h12]
            · intro a W hG hR hO hp
              have h28 : slotOf a 28 = .slice (some ⟨ab, ao, none⟩) us.length c := hp.1
              have h29 : slotOf a 29 = vi i := hp.2.1
              refine wp_yields (v := .pointer (some ⟨ab, ao + i * 2, none⟩)) ?_ ⟨_, rfl, rfl, Below.refl _ _, hG⟩
              simp [slotOf] at h28 h29
              simp [execOp, go_sem, h28, h29, hki]
            · intro a W hG hR hO hp
              have h30 : slotOf a 30 = .pointer (some ⟨ab, ao + i * 2, none⟩) := hp.1
              have c0 := keep_cell d0 hG
              have c1 := keep_cell d1 hG
              refine wp_yields (v := .agg #[vi k0, .slice xa n0 xc]) ?_ ⟨_, rfl, rfl, Below.refl _ _, hG⟩
              simp [slotOf] at h30
              simp [execOp, go_sem, h30, c0, c1]
            · intro a W hG hR hO hp
              have h4 := hO.slot 4 (by kernel_rfl)
              have c0 := keep_cell x0 hG
              have c1 := keep_cell x1 hG
              refine wp_yields (v := smV s) ?_ ⟨_, rfl, rfl, Below.refl _ _, hG⟩
              simp [slotOf] at h4
              simp [execOp, go_sem, h4, c0, c1]
            · intro a W hG hR hO hp
              have h1 := hO.slot 1 (by kernel_rfl)
              refine wp_yields (v := .slice (some ⟨ab, ao, none⟩) us.length c) ?_ ⟨_, rfl, rfl, Below.refl _ _, hG⟩
              simp [slotOf] at h1
              simp [execOp, go_sem, h1]
            · intro a W hG hR hO hp
              have h12 := hO.slot 12 (by kernel_rfl)
              refine wp_yields (v := vi i) ?_ ⟨_, rfl, rfl, Below.refl _ _, hG⟩
              simp [slotOf] at h12
              simp [execOp, go_sem, h12]
            · intro a W hG hR hO hp
              have h33 : slotOf a 33 = .slice (some ⟨ab, ao, none⟩) us.length c := hp.1
              have h34 : slotOf a 34 = vi i := hp.2.1
              refine wp_yields (v := .pointer (some ⟨ab, ao + i * 2, none⟩)) ?_ ⟨_, rfl, rfl, Below.refl _ _, hG⟩
              simp [slotOf] at h33 h34
              simp [execOp, go_sem, h33, h34, hki]
            · intro a W hG hR hO hp
              have h35 : slotOf a 35 = .pointer (some ⟨ab, ao + i * 2, none⟩) := hp.1
              have c0 := keep_cell d0 hG
              have c1 := keep_cell d1 hG
              refine wp_yields (v := .agg #[vi k0, .slice xa n0 xc]) ?_ ⟨_, rfl, rfl, Below.refl _ _, hG⟩
              simp [slotOf] at h35
              simp [execOp, go_sem, h35, c0, c1]
            · intro a W hG hR hO hp
              have h32 : slotOf a 32 = smV s := hp.1
              have h36 : slotOf a 36 = .agg #[vi k0, .slice xa n0 xc] := hp.2.1
              refine wp_enters (f := 22) (args := #[smV s, .agg #[vi k0, .slice xa n0 xc]]) ?_ ((HRS.out W (newer_trans HQ.out.2.1.1 hG)).mono ?_)
              · simp [slotOf] at h32 h36
                simp [go_sem, h32, h36]
              · rintro e w' ⟨rfl, hb⟩
                exact ⟨_, rfl, _, rfl, rfl, hb, below_next hG hb⟩
            · intro a W hG hR hO hp
              refine wp_makes (v := .pointer (some ⟨W.heap.size, 0, none⟩)) (W' := W.alloc (.cells #[vi 0, .slice none 0 0] 27)) ?_ ⟨_, rfl, ⟨_, rfl, hG.size, Whole.made _ _ _⟩, newer_allocH _ _, below_next hG (newer_allocH _ _)⟩
              skip
              simp [execOp, go_sem]
            · intro a W hG hR hO hp
              refine wp_makes (v := .pointer (some ⟨W.heap.size, 0, none⟩)) (W' := W.alloc (.cells #[vi 0, vi 0] 42)) ?_ ⟨_, rfl, ⟨_, rfl, hG.size, Whole.made _ _ _⟩, newer_allocH _ _, below_next hG (newer_allocH _ _)⟩
              skip
              simp [execOp, go_sem]
          · intro wz hG hR
            rintro _ rfl _ rfl _ rfl _ rfl _ rfl _ rfl _ rfl _ rfl _ rfl _ rfl _ ⟨fb, rfl, hfb, hwf⟩ _ ⟨gb, rfl, hgb, hwg⟩
            change wpList _ _ _ _ _ _
            simp only [Act.put, List.setIfInBounds_toArray, List.set_cons_zero, List.set_cons_succ, List.drop_succ_cons, List.drop_zero]
            have b0 := hwf.at 0 rfl
            have b1 := hwf.at 1 rfl
            have f0 := hwf.free 0
            have f1 := hwf.free 1
            have y0 := hwg.at 0 rfl
            have y1 := hwg.at 1 rfl
            have z0 := hwg.free 0
            have z1 := hwg.free 1
            have hne : fb ≠ gb := hwf.ne hwg (by decide)
            have ho := own_below HQ.out.2.2.2 hG
            have hn4 := ((((hG.setCell (p := ⟨fb, 0, none⟩) hfb (vi k0)).setCell (p := ⟨fb, 1, none⟩) hfb (.slice xa n0 xc)).setCell (p := ⟨gb, 0, none⟩) hgb (vi g0)).setCell (p := ⟨gb, 1, none⟩) hgb (vi g1))
            have hw1 : Whole ((((wz.setCell ⟨fb, 0, none⟩ (vi k0)).setCell ⟨fb, 1, none⟩ (.slice xa n0 xc)).setCell ⟨gb, 0, none⟩ (vi g0)).setCell ⟨gb, 1, none⟩ (vi g1)) fb 27 #[vi k0, .slice xa n0 xc] := (((hwf.set 0 _).set 1 _).far (p := ⟨gb, 0, none⟩) hne _).far (p := ⟨gb, 1, none⟩) hne _
            have hw2 : Whole ((((wz.setCell ⟨fb, 0, none⟩ (vi k0)).setCell ⟨fb, 1, none⟩ (.slice xa n0 xc)).setCell ⟨gb, 0, none⟩ (vi g0)).setCell ⟨gb, 1, none⟩ (vi g1)) gb 42 #[vi g0, vi g1] := (((hwg.far (p := ⟨fb, 0, none⟩) hne.symm _).far (p := ⟨fb, 1, none⟩) hne.symm _).set 0 _).set 1 _
            have hg4 : Whole ((wz.setCell ⟨fb, 0, none⟩ (vi k0)).setCell ⟨fb, 1, none⟩ (.slice xa n0 xc)) gb 42 #[vi 0, vi 0] := (hwg.far (p := ⟨fb, 0, none⟩) hne.symm _).far (p := ⟨fb, 1, none⟩) hne.symm _
            have HZ := Lib.hid (And.intro (newer_trans HQ.out.2.1.1 hn4) (And.intro (HQ.out.2.2.1.below hn4 HQ.out.2.2.1.lt) (And.intro (own_below HQ.out.2.2.2 hn4) (And.intro hw1 hw2))))
            clear hG hR x0 x1 d0 d1 HQ HRS y0 y1 z0 z1 ho hn4 hw1 hw2 hwf hwg
            have y0 := hg4.at 0 (v := vi 0) rfl
            have y1 := hg4.at 1 (v := vi 0) rfl
            have z0 := hg4.free 0
            have z1 := hg4.free 1
            clear hg4
            go_upto_region 10 with fail
            clear b0 b1 f0 f1 y0 y1 z0 z1
            have u0 := HZ.out.2.2.2.1.at 0 (v := vi k0) rfl
            have u1 := HZ.out.2.2.2.1.at 1 (v := .slice xa n0 xc) rfl
            have q0 := HZ.out.2.2.2.2.at 0 (v := vi g0) rfl
            have q1 := HZ.out.2.2.2.2.at 1 (v := vi g1) rfl
            by_cases h1 : g0 < 0
            · have HC := Lib.hid (mv_skip (s := s.sd) (F := F) (sure := sure) (x := k) (u := u) (by rw [← HU.out.2.2.2.1]; exact h1))
              go_wp2_with fail
              refine ⟨⟨i + 1, b, by omega, rfl, rfl, ?_, HZ.out.1, HZ.out.2.1, HZ.out.2.2.1⟩, ?_⟩
              · rw [any_step HU.out.1, ← HIB.out, HC.out, Bool.or_false]
              · simp [intOf]
                omega
            · have HIN := Lib.hid (fun W => in_any (k : Int) (k0 : Int) ((k0 : Int) + n0 - 1) W)
              obtain ⟨q, hq⟩ : ∃ q, q = inB (k : Int) (k0 : Int) ((k0 : Int) + n0 - 1) := ⟨_, rfl⟩
              rw [← hq] at HIN
              have HQQ := Lib.hid hq
              clear hq
              cases q with
              | false =>
                have HC := Lib.hid (mv_out (s := s.sd) (F := F) (sure := sure) (x := k) HU.out.2.1 HU.out.2.2.1 HQQ.out.symm)
                go_wp2_with fail
                refine (HIN.out _).mono ?_
                rintro e w9 ⟨rfl, rfl⟩
                go_wp2_with fail
                refine ⟨⟨i + 1, b, by omega, rfl, rfl, ?_, HZ.out.1, HZ.out.2.1, HZ.out.2.2.1⟩, ?_⟩
                · rw [any_step HU.out.1, ← HIB.out, HC.out, Bool.or_false]
                · simp [intOf]
                  omega
              | true =>
                have HC := Lib.hid (mv_in (s := s.sd) (F := F) (sure := sure) (x := k) HU.out.2.1 HU.out.2.2.1 (by rw [← HU.out.2.2.2.1]; exact h1) HQQ.out.symm)
                go_wp2_with fail
                refine (HIN.out _).mono ?_
                rintro e w9 ⟨rfl, rfl⟩
                cases b with
                | true =>
                  go_wp2_with fail
                  refine ⟨⟨i + 1, true, by omega, rfl, rfl, ?_, HZ.out.1, HZ.out.2.1, HZ.out.2.2.1⟩, ?_⟩
                  · rw [any_step HU.out.1, ← HIB.out, Bool.true_or]
                  · simp [intOf]
                    omega
                | false =>
                  cases sure with
                  | true =>
                    have HD := Lib.hid (show refMv s.sd F true k u = decide (g1 < F) by rw [HC.out, ← HU.out.2.2.2.2])
                    by_cases h2 : g1 < F
                    · go_wp2_with fail
                      refine ⟨⟨i + 1, true, by omega, rfl, rfl, ?_, HZ.out.1, HZ.out.2.1, HZ.out.2.2.1⟩, ?_⟩
                      · rw [any_step HU.out.1, ← HIB.out, HD.out, decide_eq_true h2, Bool.or_true]
                      · simp [intOf]
                        omega
                    · go_wp2_with fail
                      refine ⟨⟨i + 1, false, by omega, by rw [decide_eq_false (by omega : ¬ _ < F)], rfl, ?_, HZ.out.1, HZ.out.2.1, HZ.out.2.2.1⟩, ?_⟩
                      · rw [any_step HU.out.1, ← HIB.out, HD.out, decide_eq_false (by omega : ¬ _ < F), Bool.or_false]
                      · simp [intOf]
                        omega
                  | false =>
                    have HD := Lib.hid (show refMv s.sd F false k u = decide (g0 < F) by rw [HC.out, HU.out.2.2.2.1]; rfl)
                    by_cases h2 : g0 < F
                    · go_wp2_with fail
                      refine ⟨⟨i + 1, true, by omega, rfl, rfl, ?_, HZ.out.1, HZ.out.2.1, HZ.out.2.2.1⟩, ?_⟩
                      · rw [any_step HU.out.1, ← HIB.out, HD.out, decide_eq_true h2, Bool.or_true]
                      · simp [intOf]
                        omega
                    · go_wp2_with fail
                      refine ⟨⟨i + 1, false, by omega, by rw [decide_eq_false (by omega : ¬ _ < F)], rfl, ?_, HZ.out.1, HZ.out.2.1, HZ.out.2.2.1⟩, ?_⟩
                      · rw [any_step HU.out.1, ← HIB.out, HD.out, decide_eq_false (by omega : ¬ _ < F), Bool.or_false]
                      · simp [intOf]
                        omega
        · obtain rfl : i = us.length := by omega
          have HG : Hid (b = all.any (refMv s.sd F sure k)) := Lib.hid (by rw [hib, ← HAL.out, List.take_length])
          clear hib HIB
          cases b with
          | false =>
            have HN : Hid (l = (List.range (k + 1)).filter fun x => all.any (refMv s.sd F sure x)) := Lib.hid (by rw [List.range_succ, List.filter_append, ← HL.out]; simp [← HG.out])
            have HJ := Lib.hid (And.intro q2 (And.intro q3 q4))
            clear q2 q3 q4
            go_wp2_with fail
            refine ⟨⟨k + 1, l, B, d, rfl, by omega, HN.out, rfl, HJ.out.2.2, HJ.out.1, HJ.out.2.1⟩, ?_⟩
            simp [intOf]
            omega
          | true =>
            have HN : Hid (l ++ [k] = (List.range (k + 1)).filter fun x => all.any (refMv s.sd F sure x)) := Lib.hid (by rw [List.range_succ, List.filter_append, ← HL.out]; simp [← HG.out])
            have hn1 := newer_allocH wr (.cells #[vi k] 3)
            have HO := Lib.hid (own_below q4 hn1)
            have HJ3 := Lib.hid (And.intro (newer_trans q2 hn1) (q3.below hn1 q3.lt))
            have HCW : Hid ((wr.alloc (.cells #[vi k] 3)).cell? ⟨wr.heap.size, 0, none⟩ = some (vi k)) := Lib.hid ((Whole.made wr 3 #[vi k]).at 0 rfl)
            have HLB := Lib.hid (show l.length ≤ 12 by omega)
            clear hn1 q2 q3 q4
            go_wp2_with (at_builtin; go_loud ((refine wpList_plain rfl fun _ hK => wp_append_one (.tmp 76) (.tmp 78) 25 rfl w.heap.size 3 i0 (.int .i64 0) 8 Try.underlying25 HI.out.1 HI.out.2.1 HI.out.2.2.1 HI.out.2.2.2 rfl B l.length d (l.map fun x : Nat => vi x) rfl HO.out ⟨wr.heap.size, 0, none⟩ 1 (vi k) rfl HCW.out rfl (by have := HLB.out; unfold maxLen; omega) (by have := HLB.out; omega) HJ3.out.1.size fun g2 c2 w5 hown hwh => hK _ _ ?_); have HE := Lib.hid (And.intro hown (mv_app HJ3.out HO.out hwh)); clear hown hwh))
            refine ⟨⟨k + 1, l ++ [k], some ⟨g2, 0, none⟩, c2, rfl, by omega, HN.out, by rw [List.length_append]; rfl, ?_, HE.out.2.1, HE.out.2.2⟩, ?_⟩
            · have h1 := HE.out.1
              rw [List.length_append, List.map_append]
              exact h1
            · simp [intOf]
              omega
    · obtain rfl : k = s.cs.length := by omega
      obtain rfl : l = ml := HL.out.trans HML.out.symm
      go_wp2_with fail
      go_ret
      exact ⟨B, d, rfl, HJ.out.2.2, HJ.out.1⟩

end Go.Proofs.Ytkenokpobbichaa
