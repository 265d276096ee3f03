/- Valid spots, tools; the error of a survey. -/
import Derived.Test.YtpmafnifgegfbaaB
namespace Go.Proofs.Ytpmafnifgegfbaa
open Go.RowKit Go.Deep

set_option maxHeartbeats 400000 in
theorem rdB_any (n : Int) (w : World) : Calls Try.prog 89 #[vi n] w fun e w' => e = .returned (.bool (rdB n)) ∧ w = w' := by
  unfold rdB
  go_enter Try.func89, Try.ntmps89
  go_wp2_with (go_at_call 74; refine (within_any _ _ _ _).mono ?_; rintro e w' ⟨rfl, rfl⟩)
  go_ret
  exact ⟨rfl, rfl⟩
set_option maxHeartbeats 400000 in
theorem sight3_any (n : Int) (w : World) : Calls Try.prog 116 #[vi n] w fun e w' => e = .returned (.bool (inB n (-3) 3)) ∧ w = w' := by
  go_enter Try.func116, Try.ntmps116
  go_wp2_with (go_at_call 74; refine (within_any _ _ _ _).mono ?_; rintro e w' ⟨rfl, rfl⟩)
  go_ret
  exact ⟨rfl, rfl⟩
set_option maxHeartbeats 1000000 in
theorem spB_any (p : Sp) (w : World) : Calls Try.prog 87 #[spV p] w fun e w' => e = .returned (.bool (spB p)) ∧ newer w w' := by
  have hnw := newer_allocH w (.cells (spC p) 56)
  have hbx := Whole.made w 56 (spC p)
  unfold spB
  obtain ⟨q1, h1⟩ : ∃ q, q = rgB p.x := ⟨_, rfl⟩
  obtain ⟨q2, h2⟩ : ∃ q, q = rgB p.y := ⟨_, rfl⟩
  have C1 := Lib.hid (fun W => right_any p.x W)
  have C2 := Lib.hid (fun W => right_any p.y W)
  rw [← h1] at C1 ⊢
  rw [← h2] at C2 ⊢
  clear h1 h2
  have H1 := Lib.hid (And.intro (hnw) (hbx))
  clear hnw hbx
  have x0 := H1.out.2.at 0 (v := vi p.x.lo) rfl
  have x1 := H1.out.2.at 1 (v := vi p.x.hi) rfl
  have x2 := H1.out.2.at 2 (v := vi p.y.lo) rfl
  have x3 := H1.out.2.at 3 (v := vi p.y.hi) rfl
  go_enter Try.func87, Try.ntmps87
  go_wp2_with fail
  refine (C1.out _).mono ?_
  rintro e w2 ⟨rfl, hb⟩
  have H3 := Lib.hid (And.intro ((newer_trans H1.out.1 hb)) ((H1.out.2.below hb H1.out.2.lt)))
  clear hb H1 x0 x1 x2 x3
  have x0 := H3.out.2.at 0 (v := vi p.x.lo) rfl
  have x1 := H3.out.2.at 1 (v := vi p.x.hi) rfl
  have x2 := H3.out.2.at 2 (v := vi p.y.lo) rfl
  have x3 := H3.out.2.at 3 (v := vi p.y.hi) rfl
  cases q1 with
  | false =>
    go_wp2_with fail
    go_ret
    exact ⟨rfl, H3.out.1⟩
  | true =>
    go_wp2_with fail
    refine (C2.out _).mono ?_
    rintro e w4 ⟨rfl, hb⟩
    have H5 := Lib.hid (And.intro ((newer_trans H3.out.1 hb)) ((H3.out.2.below hb H3.out.2.lt)))
    clear hb H3 x0 x1 x2 x3
    go_wp2_with fail
    go_ret
    exact ⟨rfl, H5.out.1⟩
set_option maxRecDepth 100000 in
set_option maxHeartbeats 2000000 in
theorem tool_any (y : Sm) (t : Tl) (w : World) (hn : y.s.spots.length ≤ 1000000) : Calls Try.prog 83 #[smV y, tlV t] w fun e w' => e = .returned (.bool (tlB y.s.spots.length y.s.day t)) ∧ newer w w' := by
  have hnw := newer_trans (newer_allocH w (.cells (smC y) 40)) (newer_allocH (w.alloc (.cells (smC y) 40)) (.cells (tlC t) 112))
  have hbx := (Whole.made w 40 (smC y)).alloc (.cells (tlC t) 112)
  have htb := Whole.made (w.alloc (.cells (smC y) 40)) 112 (tlC t)
  simp only [World.size_alloc] at htb
  obtain ⟨q, hq⟩ : ∃ q, q = tlB y.s.spots.length y.s.day t := ⟨_, rfl⟩
  unfold tlB at hq
  rw [show tlB y.s.spots.length y.s.day t = q by rw [hq]; rfl]
  obtain ⟨q0, h0⟩ : ∃ q, q = inB t.spot 0 (y.s.spots.length - 1) := ⟨_, rfl⟩
  have C0 := Lib.hid (fun W => within_any t.spot 0 (y.s.spots.length - 1) W)
  rw [← h0] at C0 hq
  clear h0
  obtain ⟨q1, h1⟩ : ∃ q, q = inB t.a (-3) 3 := ⟨_, rfl⟩
  have C1 := Lib.hid (fun W => sight3_any t.a W)
  rw [← h1] at C1 hq
  clear h1
  obtain ⟨q2, h2⟩ : ∃ q, q = inB t.b (-3) 3 := ⟨_, rfl⟩
  have C2 := Lib.hid (fun W => sight3_any t.b W)
  rw [← h2] at C2 hq
  clear h2
  obtain ⟨q4, h4⟩ : ∃ q, q = inB t.turn 2 200 := ⟨_, rfl⟩
  have C4 := Lib.hid (fun W => within_any t.turn 2 200 W)
  rw [← h4] at C4 hq
  clear h4
  obtain ⟨q5, h5⟩ : ∃ q, q = inB t.err 0 50 := ⟨_, rfl⟩
  have C5 := Lib.hid (fun W => within_any t.err 0 50 W)
  rw [← h5] at C5 hq
  clear h5
  obtain ⟨q6, h6⟩ : ∃ q, q = inB t.drift 0 3 := ⟨_, rfl⟩
  have C6 := Lib.hid (fun W => within_any t.drift 0 3 W)
  rw [← h6] at C6 hq
  clear h6
  obtain ⟨q7, h7⟩ : ∃ q, q = inB t.since 0 y.s.day := ⟨_, rfl⟩
  have C7 := Lib.hid (fun W => within_any t.since 0 y.s.day W)
  rw [← h7] at C7 hq
  clear h7
  have HQ := Lib.hid hq
  clear hq
  have H1 := Lib.hid (And.intro (hnw) (And.intro (hbx) (htb)))
  clear hnw hbx htb
  have x0 := H1.out.2.1.at 0 (v := .slice y.sa y.s.spots.length y.sc) rfl
  have x1 := H1.out.2.1.at 1 (v := vi y.s.strain) rfl
  have x2 := H1.out.2.1.at 2 (v := .slice y.ta y.s.tools.length y.tc) rfl
  have x3 := H1.out.2.1.at 3 (v := vi y.s.day) rfl
  have x4 := H1.out.2.1.at 4 (v := .slice y.ra y.s.reads.length y.rc) rfl
  have z0 := H1.out.2.2.at 0 (v := vi t.spot) rfl
  have z1 := H1.out.2.2.at 1 (v := vi t.a) rfl
  have z2 := H1.out.2.2.at 2 (v := vi t.b) rfl
  have z3 := H1.out.2.2.at 3 (v := vi t.turn) rfl
  have z4 := H1.out.2.2.at 4 (v := vi t.err) rfl
  have z5 := H1.out.2.2.at 5 (v := vi t.drift) rfl
  have z6 := H1.out.2.2.at 6 (v := vi t.since) rfl
  go_enter Try.func83, Try.ntmps83
  go_wp2_with fail
  refine (C0.out _).mono ?_
  rintro e w' ⟨rfl, rfl⟩
  cases q0 with
  | false =>
    go_wp2_with fail
    go_ret
    exact ⟨ret_bool (by rw [HQ.out]; simp), H1.out.1⟩
  | true =>
    go_wp2_with fail
    refine (C1.out _).mono ?_
    rintro e w' ⟨rfl, rfl⟩
    cases q1 with
    | false =>
      go_wp2_with fail
      go_ret
      exact ⟨ret_bool (by rw [HQ.out]; simp), H1.out.1⟩
    | true =>
      go_wp2_with fail
      refine (C2.out _).mono ?_
      rintro e w' ⟨rfl, rfl⟩
      cases q2 with
      | false =>
        go_wp2_with fail
        go_ret
        exact ⟨ret_bool (by rw [HQ.out]; simp), H1.out.1⟩
      | true =>
        by_cases ha : t.a = 0
        · by_cases hb0 : t.b = 0
          · go_wp2_with fail
            go_ret
            exact ⟨ret_bool (by rw [HQ.out]; simp [ha, hb0]), H1.out.1⟩
          · by_cases ht : t.turn = 0
            · go_wp2_with fail
              refine (C5.out _).mono ?_
              rintro e w' ⟨rfl, rfl⟩
              cases q5 with
              | false =>
                go_wp2_with fail
                go_ret
                exact ⟨ret_bool (by rw [HQ.out]; simp [ha, hb0, ht]), H1.out.1⟩
              | true =>
                go_wp2_with fail
                refine (C6.out _).mono ?_
                rintro e w' ⟨rfl, rfl⟩
                cases q6 with
                | false =>
                  go_wp2_with fail
                  go_ret
                  exact ⟨ret_bool (by rw [HQ.out]; simp [ha, hb0, ht]), H1.out.1⟩
                | true =>
                  go_wp2_with fail
                  refine (C7.out _).mono ?_
                  rintro e w' ⟨rfl, rfl⟩
                  cases q7 with
                  | false =>
                    go_wp2_with fail
                    go_ret
                    exact ⟨ret_bool (by rw [HQ.out]; simp [ha, hb0, ht]), H1.out.1⟩
                  | true =>
                    go_wp2_with fail
                    go_ret
                    exact ⟨ret_bool (by rw [HQ.out]; simp [ha, hb0, ht]), H1.out.1⟩
            · go_wp2_with fail
              refine (C4.out _).mono ?_
              rintro e w' ⟨rfl, rfl⟩
              cases q4 with
              | false =>
                go_wp2_with fail
                go_ret
                exact ⟨ret_bool (by rw [HQ.out]; simp [ha, hb0, ht]), H1.out.1⟩
              | true =>
                go_wp2_with fail
                refine (C5.out _).mono ?_
                rintro e w' ⟨rfl, rfl⟩
                cases q5 with
                | false =>
                  go_wp2_with fail
                  go_ret
                  exact ⟨ret_bool (by rw [HQ.out]; simp [ha, hb0, ht]), H1.out.1⟩
                | true =>
                  go_wp2_with fail
                  refine (C6.out _).mono ?_
                  rintro e w' ⟨rfl, rfl⟩
                  cases q6 with
                  | false =>
                    go_wp2_with fail
                    go_ret
                    exact ⟨ret_bool (by rw [HQ.out]; simp [ha, hb0, ht]), H1.out.1⟩
                  | true =>
                    go_wp2_with fail
                    refine (C7.out _).mono ?_
                    rintro e w' ⟨rfl, rfl⟩
                    cases q7 with
                    | false =>
                      go_wp2_with fail
                      go_ret
                      exact ⟨ret_bool (by rw [HQ.out]; simp [ha, hb0, ht]), H1.out.1⟩
                    | true =>
                      go_wp2_with fail
                      go_ret
                      exact ⟨ret_bool (by rw [HQ.out]; simp [ha, hb0, ht]), H1.out.1⟩
        · by_cases ht : t.turn = 0
          · go_wp2_with fail
            refine (C5.out _).mono ?_
            rintro e w' ⟨rfl, rfl⟩
            cases q5 with
            | false =>
              go_wp2_with fail
              go_ret
              exact ⟨ret_bool (by rw [HQ.out]; simp [ha, ht]), H1.out.1⟩
            | true =>
              go_wp2_with fail
              refine (C6.out _).mono ?_
              rintro e w' ⟨rfl, rfl⟩
              cases q6 with
              | false =>
                go_wp2_with fail
                go_ret
                exact ⟨ret_bool (by rw [HQ.out]; simp [ha, ht]), H1.out.1⟩
              | true =>
                go_wp2_with fail
                refine (C7.out _).mono ?_
                rintro e w' ⟨rfl, rfl⟩
                cases q7 with
                | false =>
                  go_wp2_with fail
                  go_ret
                  exact ⟨ret_bool (by rw [HQ.out]; simp [ha, ht]), H1.out.1⟩
                | true =>
                  go_wp2_with fail
                  go_ret
                  exact ⟨ret_bool (by rw [HQ.out]; simp [ha, ht]), H1.out.1⟩
          · go_wp2_with fail
            refine (C4.out _).mono ?_
            rintro e w' ⟨rfl, rfl⟩
            cases q4 with
            | false =>
              go_wp2_with fail
              go_ret
              exact ⟨ret_bool (by rw [HQ.out]; simp [ha, ht]), H1.out.1⟩
            | true =>
              go_wp2_with fail
              refine (C5.out _).mono ?_
              rintro e w' ⟨rfl, rfl⟩
              cases q5 with
              | false =>
                go_wp2_with fail
                go_ret
                exact ⟨ret_bool (by rw [HQ.out]; simp [ha, ht]), H1.out.1⟩
              | true =>
                go_wp2_with fail
                refine (C6.out _).mono ?_
                rintro e w' ⟨rfl, rfl⟩
                cases q6 with
                | false =>
                  go_wp2_with fail
                  go_ret
                  exact ⟨ret_bool (by rw [HQ.out]; simp [ha, ht]), H1.out.1⟩
                | true =>
                  go_wp2_with fail
                  refine (C7.out _).mono ?_
                  rintro e w' ⟨rfl, rfl⟩
                  cases q7 with
                  | false =>
                    go_wp2_with fail
                    go_ret
                    exact ⟨ret_bool (by rw [HQ.out]; simp [ha, ht]), H1.out.1⟩
                  | true =>
                    go_wp2_with fail
                    go_ret
                    exact ⟨ret_bool (by rw [HQ.out]; simp [ha, ht]), H1.out.1⟩

/-! ## Sp -/
set_option maxHeartbeats 400000 in
theorem notSp_any (x : Sp) (rb : Nat) (b : Bool) (w : World) (hr : w.cell? ⟨rb, 0, none⟩ = some (.func (.func 87) #[] #[]))
    (hf : ∀ W, Below w.heap.size w W → Calls Try.prog 87 #[spV x] W fun e w' => e = .returned (.bool b) ∧ Below W.heap.size W w') :
    Calls Try.prog 118 #[spV x, .pointer (some ⟨rb, 0, none⟩)] w fun e w' => e = .returned (.bool (!b)) ∧ Below w.heap.size w w' := by
  have HF := Lib.hid hf
  have hlt := World.block_lt_of_cell? w _ hr
  dsimp only at hlt
  clear hf
  go_enter Try.func118, Try.ntmps118
  go_wp2_with (go_at_call 87; refine (HF.out _ ((Below.refl _ _).alloc (Nat.le_refl _) _)).mono ?_; rintro e w' ⟨rfl, hb⟩)
  go_ret
  exact ⟨rfl, below_step ((Below.refl _ _).alloc (Nat.le_refl _) _) hb (by simp)⟩
set_option maxHeartbeats 400000 in
theorem idxSp_any (l : List Sp) (p : Sp → Bool) (cp rb : Nat) (A : Option Addr) (w : World) (hn : l.length ≤ 1000) (hrow : Row spL 4 w w.heap.size A l)
    (hf : ∀ c ∈ l, ∀ W, Below w.heap.size w W → Calls Try.prog 118 #[spV c, .pointer (some ⟨rb, 0, none⟩)] W fun e w' => e = .returned (.bool (p c)) ∧ Below W.heap.size W w') :
    Calls Try.prog 136 #[.slice A l.length cp, .func (.func 118) #[] #[.pointer (some ⟨rb, 0, none⟩)]] w fun e w' => e = .returned (.int .i64 (idx p l)) ∧ Below w.heap.size w w' := by
  have HF := Lib.hid hf
  clear hf
  obtain ⟨n, hnl⟩ : ∃ n, n = l.length := ⟨_, rfl⟩
  rw [← hnl] at hn ⊢
  have HN := Lib.hid hnl
  clear hnl
  go_enter Try.func136, Try.ntmps136
  go_wp2
  go_loopw [4, 5, 8] (fun _ _ i wr => ∃ k : Nat, k ≤ n ∧ i = .int .i64 k ∧ Below w.heap.size w wr ∧ early p l k) (fun _ _ i _ => n - (intOf i).toNat)
  case atStart => exact ⟨0, Nat.zero_le _, rfl, Below.refl _ _, early_zero _ _⟩
  case round =>
    obtain ⟨k, hk, rfl, hbw, he⟩ := hrel
    have HE := Lib.hid he
    clear he
    by_cases hlt : k < n
    · obtain ⟨c, hc⟩ := get_of_lt (l := l) (k := k) (by have := HN.out; omega)
      obtain ⟨b, off, rfl, hb, h0, h1, h2, h3⟩ := row4 (hrow.below hbw) hc
      have HC := Lib.hid hc
      clear hc
      cases hp : p c
      · go_wp2_with (go_at_call 118; refine (HF.out c (List.mem_of_getElem? HC.out) _ hbw).mono ?_; rintro e w' ⟨rfl, hb2⟩)
        go_roundw
        case rel => exact ⟨k + 1, by omega, by go_num, below_next hbw hb2, early_succ HE.out HC.out hp⟩
        case measure => simp [intOf]; omega
      · go_wp2_with (go_at_call 118; refine (HF.out c (List.mem_of_getElem? HC.out) _ hbw).mono ?_; rintro e w' ⟨rfl, hb2⟩)
        go_ret
        exact ⟨ret_int (idx_here p l k c HC.out hp HE.out).symm, below_next hbw hb2⟩
    · go_wp2_with fail
      go_ret
      have hkn : k = l.length := by have := HN.out; omega
      exact ⟨ret_int (idx_none p l (hkn ▸ HE.out)).symm, hbw⟩
set_option maxHeartbeats 400000 in
theorem containsSp_any (l : List Sp) (p : Sp → Bool) (cp rb : Nat) (A : Option Addr) (w : World) (hn : l.length ≤ 1000) (hrow : Row spL 4 w w.heap.size A l)
    (hf : ∀ c ∈ l, ∀ W, Below w.heap.size w W → Calls Try.prog 118 #[spV c, .pointer (some ⟨rb, 0, none⟩)] W fun e w' => e = .returned (.bool (p c)) ∧ Below W.heap.size W w') :
    Calls Try.prog 117 #[.slice A l.length cp, .func (.func 118) #[] #[.pointer (some ⟨rb, 0, none⟩)]] w fun e w' => e = .returned (.bool (decide (0 ≤ idx p l))) ∧ Below w.heap.size w w' := by
  have HF := Lib.hid hf
  clear hf
  go_enter Try.func117, Try.ntmps117
  go_wp2_with (go_at_call 136; refine (idxSp_any l p cp rb A _ hn hrow HF.out).mono ?_; rintro e w' ⟨rfl, hb2⟩)
  go_ret
  exact ⟨rfl, hb2⟩
set_option maxHeartbeats 400000 in
theorem allSp_any (l : List Sp) (p : Sp → Bool) (cp : Nat) (A : Option Addr) (w : World) (hn : l.length ≤ 1000) (hrow : Row spL 4 w w.heap.size A l)
    (hf : ∀ c ∈ l, ∀ W, Below w.heap.size w W → Calls Try.prog 87 #[spV c] W fun e w' => e = .returned (.bool (p c)) ∧ Below W.heap.size W w') :
    Calls Try.prog 90 #[.slice A l.length cp, .func (.func 87) #[] #[]] w fun e w' => e = .returned (.bool (l.all p)) ∧ Below w.heap.size w w' := by
  have hX := containsSp_any l (fun c => !p c) cp w.heap.size A (w.alloc (.cells #[.func (.func 87) #[] #[]] 155)) hn (hrow_ok hrow _) (fun c hc W hW => notSp_any c w.heap.size (p c) W (keep_cell (Whole.at (Whole.made w 155 #[.func (.func 87) #[] #[]]) 0 rfl) hW) fun W' hW' => hf c hc W' (below_next (below_next ((Below.refl _ _).alloc (Nat.le_refl _) _) hW) hW'))
  have HX := Lib.hid hX
  clear hX hf
  go_enter Try.func90, Try.ntmps90
  go_wp2_with (go_at_call 117; refine (HX.out).mono ?_; rintro e w' ⟨rfl, hb2⟩)
  go_ret
  exact ⟨ret_bool (idx_all p l), below_next ((Below.refl _ _).alloc (Nat.le_refl _) _) hb2⟩

/-! ## Rd -/
set_option maxHeartbeats 400000 in
theorem notRd_any (x : Int) (rb : Nat) (b : Bool) (w : World) (hr : w.cell? ⟨rb, 0, none⟩ = some (.func (.func 89) #[] #[]))
    (hf : ∀ W, Below w.heap.size w W → Calls Try.prog 89 #[vi x] W fun e w' => e = .returned (.bool b) ∧ Below W.heap.size W w') :
    Calls Try.prog 120 #[vi x, .pointer (some ⟨rb, 0, none⟩)] w fun e w' => e = .returned (.bool (!b)) ∧ Below w.heap.size w w' := by
  have HF := Lib.hid hf
  have hlt := World.block_lt_of_cell? w _ hr
  dsimp only at hlt
  clear hf
  go_enter Try.func120, Try.ntmps120
  go_wp2_with (go_at_call 89; refine (HF.out _ (Below.refl _ _)).mono ?_; rintro e w' ⟨rfl, hb⟩)
  go_ret
  exact ⟨rfl, hb⟩
set_option maxHeartbeats 400000 in
theorem idxRd_any (l : List Int) (p : Int → Bool) (cp rb : Nat) (A : Option Addr) (w : World) (hn : l.length ≤ 1000) (hrow : Row intL 1 w w.heap.size A l)
    (hf : ∀ c ∈ l, ∀ W, Below w.heap.size w W → Calls Try.prog 120 #[vi c, .pointer (some ⟨rb, 0, none⟩)] W fun e w' => e = .returned (.bool (p c)) ∧ Below W.heap.size W w') :
    Calls Try.prog 137 #[.slice A l.length cp, .func (.func 120) #[] #[.pointer (some ⟨rb, 0, none⟩)]] w fun e w' => e = .returned (.int .i64 (idx p l)) ∧ Below w.heap.size w w' := by
  have HF := Lib.hid hf
  clear hf
  obtain ⟨n, hnl⟩ : ∃ n, n = l.length := ⟨_, rfl⟩
  rw [← hnl] at hn ⊢
  have HN := Lib.hid hnl
  clear hnl
  go_enter Try.func137, Try.ntmps137
  go_wp2
  go_loopw [4, 5, 8] (fun _ _ i wr => ∃ k : Nat, k ≤ n ∧ i = .int .i64 k ∧ Below w.heap.size w wr ∧ early p l k) (fun _ _ i _ => n - (intOf i).toNat)
  case atStart => exact ⟨0, Nat.zero_le _, rfl, Below.refl _ _, early_zero _ _⟩
  case round =>
    obtain ⟨k, hk, rfl, hbw, he⟩ := hrel
    have HE := Lib.hid he
    clear he
    by_cases hlt : k < n
    · obtain ⟨c, hc⟩ := get_of_lt (l := l) (k := k) (by have := HN.out; omega)
      obtain ⟨b, off, rfl, hb, h0⟩ := row1 (hrow.below hbw) hc
      have HC := Lib.hid hc
      clear hc
      cases hp : p c
      · go_wp2_with (go_at_call 120; refine (HF.out c (List.mem_of_getElem? HC.out) _ hbw).mono ?_; rintro e w' ⟨rfl, hb2⟩)
        go_roundw
        case rel => exact ⟨k + 1, by omega, by go_num, below_next hbw hb2, early_succ HE.out HC.out hp⟩
        case measure => simp [intOf]; omega
      · go_wp2_with (go_at_call 120; refine (HF.out c (List.mem_of_getElem? HC.out) _ hbw).mono ?_; rintro e w' ⟨rfl, hb2⟩)
        go_ret
        exact ⟨ret_int (idx_here p l k c HC.out hp HE.out).symm, below_next hbw hb2⟩
    · go_wp2_with fail
      go_ret
      have hkn : k = l.length := by have := HN.out; omega
      exact ⟨ret_int (idx_none p l (hkn ▸ HE.out)).symm, hbw⟩
set_option maxHeartbeats 400000 in
theorem containsRd_any (l : List Int) (p : Int → Bool) (cp rb : Nat) (A : Option Addr) (w : World) (hn : l.length ≤ 1000) (hrow : Row intL 1 w w.heap.size A l)
    (hf : ∀ c ∈ l, ∀ W, Below w.heap.size w W → Calls Try.prog 120 #[vi c, .pointer (some ⟨rb, 0, none⟩)] W fun e w' => e = .returned (.bool (p c)) ∧ Below W.heap.size W w') :
    Calls Try.prog 119 #[.slice A l.length cp, .func (.func 120) #[] #[.pointer (some ⟨rb, 0, none⟩)]] w fun e w' => e = .returned (.bool (decide (0 ≤ idx p l))) ∧ Below w.heap.size w w' := by
  have HF := Lib.hid hf
  clear hf
  go_enter Try.func119, Try.ntmps119
  go_wp2_with (go_at_call 137; refine (idxRd_any l p cp rb A _ hn hrow HF.out).mono ?_; rintro e w' ⟨rfl, hb2⟩)
  go_ret
  exact ⟨rfl, hb2⟩
set_option maxHeartbeats 400000 in
theorem allRd_any (l : List Int) (p : Int → Bool) (cp : Nat) (A : Option Addr) (w : World) (hn : l.length ≤ 1000) (hrow : Row intL 1 w w.heap.size A l)
    (hf : ∀ c ∈ l, ∀ W, Below w.heap.size w W → Calls Try.prog 89 #[vi c] W fun e w' => e = .returned (.bool (p c)) ∧ Below W.heap.size W w') :
    Calls Try.prog 91 #[.slice A l.length cp, .func (.func 89) #[] #[]] w fun e w' => e = .returned (.bool (l.all p)) ∧ Below w.heap.size w w' := by
  have hX := containsRd_any l (fun c => !p c) cp w.heap.size A (w.alloc (.cells #[.func (.func 89) #[] #[]] 156)) hn (hrow_ok hrow _) (fun c hc W hW => notRd_any c w.heap.size (p c) W (keep_cell (Whole.at (Whole.made w 156 #[.func (.func 89) #[] #[]]) 0 rfl) hW) fun W' hW' => hf c hc W' (below_next (below_next ((Below.refl _ _).alloc (Nat.le_refl _) _) hW) hW'))
  have HX := Lib.hid hX
  clear hX hf
  go_enter Try.func91, Try.ntmps91
  go_wp2_with (go_at_call 119; refine (HX.out).mono ?_; rintro e w' ⟨rfl, hb2⟩)
  go_ret
  exact ⟨ret_bool (idx_all p l), below_next ((Below.refl _ _).alloc (Nat.le_refl _) _) hb2⟩

/-! ## Tl -/
set_option maxHeartbeats 400000 in
theorem notTl_any (x : Tl) (rb : Nat) (b : Bool) (w : World) (y : Sm) (hr : w.cell? ⟨rb, 0, none⟩ = some (.func (.func 83) #[smV y] #[]))
    (hf : ∀ W, Below w.heap.size w W → Calls Try.prog 83 #[smV y, tlV x] W fun e w' => e = .returned (.bool b) ∧ Below W.heap.size W w') :
    Calls Try.prog 115 #[tlV x, .pointer (some ⟨rb, 0, none⟩)] w fun e w' => e = .returned (.bool (!b)) ∧ Below w.heap.size w w' := by
  have HF := Lib.hid hf
  have hlt := World.block_lt_of_cell? w _ hr
  dsimp only at hlt
  clear hf
  go_enter Try.func115, Try.ntmps115
  go_wp2_with (go_at_call 83; refine (HF.out _ ((Below.refl _ _).alloc (Nat.le_refl _) _)).mono ?_; rintro e w' ⟨rfl, hb⟩)
  go_ret
  exact ⟨rfl, below_step ((Below.refl _ _).alloc (Nat.le_refl _) _) hb (by simp)⟩
set_option maxHeartbeats 400000 in
theorem idxTl_any (l : List Tl) (p : Tl → Bool) (cp rb : Nat) (A : Option Addr) (w : World) (hn : l.length ≤ 1000) (hrow : Row tlL 7 w w.heap.size A l)
    (hf : ∀ c ∈ l, ∀ W, Below w.heap.size w W → Calls Try.prog 115 #[tlV c, .pointer (some ⟨rb, 0, none⟩)] W fun e w' => e = .returned (.bool (p c)) ∧ Below W.heap.size W w') :
    Calls Try.prog 135 #[.slice A l.length cp, .func (.func 115) #[] #[.pointer (some ⟨rb, 0, none⟩)]] w fun e w' => e = .returned (.int .i64 (idx p l)) ∧ Below w.heap.size w w' := by
  have HF := Lib.hid hf
  clear hf
  obtain ⟨n, hnl⟩ : ∃ n, n = l.length := ⟨_, rfl⟩
  rw [← hnl] at hn ⊢
  have HN := Lib.hid hnl
  clear hnl
  go_enter Try.func135, Try.ntmps135
  go_wp2
  go_loopw [4, 5, 8] (fun _ _ i wr => ∃ k : Nat, k ≤ n ∧ i = .int .i64 k ∧ Below w.heap.size w wr ∧ early p l k) (fun _ _ i _ => n - (intOf i).toNat)
  case atStart => exact ⟨0, Nat.zero_le _, rfl, Below.refl _ _, early_zero _ _⟩
  case round =>
    obtain ⟨k, hk, rfl, hbw, he⟩ := hrel
    have HE := Lib.hid he
    clear he
    by_cases hlt : k < n
    · obtain ⟨c, hc⟩ := get_of_lt (l := l) (k := k) (by have := HN.out; omega)
      obtain ⟨b, off, rfl, hb, h0, h1, h2, h3, h4, h5, h6⟩ := row7 (hrow.below hbw) hc
      have HC := Lib.hid hc
      clear hc
      cases hp : p c
      · go_wp2_with (go_at_call 115; refine (HF.out c (List.mem_of_getElem? HC.out) _ hbw).mono ?_; rintro e w' ⟨rfl, hb2⟩)
        go_roundw
        case rel => exact ⟨k + 1, by omega, by go_num, below_next hbw hb2, early_succ HE.out HC.out hp⟩
        case measure => simp [intOf]; omega
      · go_wp2_with (go_at_call 115; refine (HF.out c (List.mem_of_getElem? HC.out) _ hbw).mono ?_; rintro e w' ⟨rfl, hb2⟩)
        go_ret
        exact ⟨ret_int (idx_here p l k c HC.out hp HE.out).symm, below_next hbw hb2⟩
    · go_wp2_with fail
      go_ret
      have hkn : k = l.length := by have := HN.out; omega
      exact ⟨ret_int (idx_none p l (hkn ▸ HE.out)).symm, hbw⟩
set_option maxHeartbeats 400000 in
theorem containsTl_any (l : List Tl) (p : Tl → Bool) (cp rb : Nat) (A : Option Addr) (w : World) (hn : l.length ≤ 1000) (hrow : Row tlL 7 w w.heap.size A l)
    (hf : ∀ c ∈ l, ∀ W, Below w.heap.size w W → Calls Try.prog 115 #[tlV c, .pointer (some ⟨rb, 0, none⟩)] W fun e w' => e = .returned (.bool (p c)) ∧ Below W.heap.size W w') :
    Calls Try.prog 114 #[.slice A l.length cp, .func (.func 115) #[] #[.pointer (some ⟨rb, 0, none⟩)]] w fun e w' => e = .returned (.bool (decide (0 ≤ idx p l))) ∧ Below w.heap.size w w' := by
  have HF := Lib.hid hf
  clear hf
  go_enter Try.func114, Try.ntmps114
  go_wp2_with (go_at_call 135; refine (idxTl_any l p cp rb A _ hn hrow HF.out).mono ?_; rintro e w' ⟨rfl, hb2⟩)
  go_ret
  exact ⟨rfl, hb2⟩
set_option maxHeartbeats 400000 in
theorem allTl_any (l : List Tl) (p : Tl → Bool) (cp : Nat) (A : Option Addr) (w : World) (y : Sm) (hn : l.length ≤ 1000) (hrow : Row tlL 7 w w.heap.size A l)
    (hf : ∀ c ∈ l, ∀ W, Below w.heap.size w W → Calls Try.prog 83 #[smV y, tlV c] W fun e w' => e = .returned (.bool (p c)) ∧ Below W.heap.size W w') :
    Calls Try.prog 81 #[.slice A l.length cp, .func (.func 83) #[smV y] #[]] w fun e w' => e = .returned (.bool (l.all p)) ∧ Below w.heap.size w w' := by
  have hX := containsTl_any l (fun c => !p c) cp w.heap.size A (w.alloc (.cells #[.func (.func 83) #[smV y] #[]] 151)) hn (hrow_ok hrow _) (fun c hc W hW => notTl_any c w.heap.size (p c) W y (keep_cell (Whole.at (Whole.made w 151 #[.func (.func 83) #[smV y] #[]]) 0 rfl) hW) fun W' hW' => hf c hc W' (below_next (below_next ((Below.refl _ _).alloc (Nat.le_refl _) _) hW) hW'))
  have HX := Lib.hid hX
  clear hX hf
  go_enter Try.func81, Try.ntmps81
  go_wp2_with (go_at_call 114; refine (HX.out).mono ?_; rintro e w' ⟨rfl, hb2⟩)
  go_ret
  exact ⟨ret_bool (idx_all p l), below_next ((Below.refl _ _).alloc (Nat.le_refl _) _) hb2⟩

end Go.Proofs.Ytpmafnifgegfbaa
